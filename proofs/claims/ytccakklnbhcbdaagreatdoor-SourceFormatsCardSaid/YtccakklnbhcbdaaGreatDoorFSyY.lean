import Derived.Test.YtccakklnbhcbdaaGreatDoorFSyR
import Derived.Test.YtccakklnbhcbdaaGreatDoorFA
set_option linter.unusedVariables false
set_option linter.unusedSimpArgs false
namespace Go.Proofs.YtccakklnbhcbdaaGreatDoor
open Go.ChangeShapes Go.WideShapes Go.ChangeAt Go.RowKit
theorem mem_le_sum {l : List (List UInt8 × List Int × List (List Int))} {x : List UInt8 × List Int × List (List Int)} (h : x ∈ l) : x.2.2.length ≤ (l.map fun x => x.2.2.length).sum := by
 induction l with
 | nil => cases h
 | cons a l ih =>
  rw [List.map_cons, List.sum_cons]
  rcases List.mem_cons.1 h with rfl | q
  ·omega
  ·have := ih q
   omega
theorem PutW.pushS {F : Nat} {w W w5 : World} {K : Nat} {d : Det} {p : PV} (h : PutW F w K d p W) {k : Nat} (hk : k + 1 = d.dems.length) (h1 : k < d.dems.length) (h2 : k < p.ds.length) (hg : W.grownBy w5 p.ds[k].ownBlock) {v' : Value} {n : List Int} (ho : w5.ownsRow 0 86 2 v' (d.dems[k].2.2.length + 1) (d.dems[k].2.2.flatMap (encK 2) ++ encK 2 n)) {m : Nat} (hm : W.heap.size ≤ m) (hl : v'.ownBlock = p.ds[k].ownBlock ∨ v'.ownBlock = some m) {G : Nat} (hG : p.vd.ownBlock = some G) :
  w5.heap[K]? = w.heap[K]? ∧ PutW F w K { d with dems := stepD d.dems n } { p with ds := p.ds.set k v' } (w5.setCell ⟨G, k * 8 + 7, none⟩ v') := by
 have hxl := h.kx.lt
 have hzl := h.kz.lt
 have hfl := h.fl
 have hkl := h.kl
 obtain ⟨hj, e1⟩ := fp_ds (p := p) h2
 have hr : ∀ b, p.ds[k].ownBlock = some b → F ≤ b ∧ b ≠ w.heap.size ∧ b ≠ w.heap.size + 1 ∧ b ≠ K := fun b e => h.far b (by rw [← e, ← e1]; exact List.getElem_mem hj)
 have hGf := h.far G (by rw [← hG]; simp [PV.fp])
 have a5 : At w5 w.heap.size 34 (detC d p) := (hg.block _ hxl fun e => (hr _ e.symm).2.1 rfl).trans h.kx
 have k5 : w5.heap[K]? = w.heap[K]? := (hg.block K (by omega) fun e => (hr _ e.symm).2.2.2 rfl).trans h.arg
 have b5 : Below F W w5 := ⟨hg.os, hg.tape, hg.output, hg.size, fun k hk => hg.block k (by omega) fun e => by have := (hr k e.symm).1; omega⟩
 refine ⟨k5, h.fl, h.kl, ?_, ?_, h.vals.pushS hk h1 h2 hg ho hm hl hG, ?_, (h.bel.trans b5).setCell hGf.1 _, ?_⟩
 ·exact (Below.heap_setCell w5 ⟨G, k * 8 + 7, none⟩ v' _ (fun e => hGf.2.1 e.symm)).trans a5
 ·exact (Below.heap_setCell w5 ⟨G, k * 8 + 7, none⟩ v' _ (fun e => hGf.2.2.1 e.symm)).trans ((hg.block _ hzl fun e => (hr _ e.symm).2.2.1 rfl).trans h.kz)
 ·intro b hb
  rw [fp_setS v' h2] at hb
  exact fp_far (p := p) (k := 6 + p.db.length + k) hj h.far (by rw [e1]; exact hl) (h.new hm) b hb
 ·exact (Below.heap_setCell w5 ⟨G, k * 8 + 7, none⟩ v' _ (fun e => hGf.2.2.2 e.symm)).trans k5
theorem RdV.last {w : World} {d : Det} {p : PV} (h : RdV w d p) {k : Nat} (hk : k + 1 = d.dems.length) : ∃ (G cap : Nat) (cur : Array Value), p.vd = .slice (some ⟨G, 0, none⟩) (k + 1) cap ∧ At w G 63 cur ∧ ∀ (h1 : k < d.dems.length) (h2 : k < p.ds.length) (j : Nat) (u : Value), (encD (d.dems[k], p.ds[k]))[j]? = some u → cur[k * 8 + j]? = some u := by
 have hz : (d.dems.zip p.ds).length = d.dems.length := by rw [List.length_zip, h.ns]; simp
 have hr := h.dems
 unfold Row at hr
 rw [hz, ← hk] at hr
 obtain ⟨_, ⟨_, q⟩ | ⟨G, cap, cur, q1, q2, q3, q4, q5, q6, q7⟩⟩ := hr
 ·omega
 ·refine ⟨G, cap, cur, q1, q3, fun h1 h2 j u hu => ?_⟩
  have hj : j < 8 := by
   have := (List.getElem?_eq_some_iff.1 hu).1
   rwa [encD_len] at this
  have h8 := flat_at encD_len (d.dems.zip p.ds) k (by rw [hz]; exact h1) j hj
  rw [List.getElem_zip, hu, ← q7, List.getElem?_take_of_lt (by omega)] at h8
  rw [← h8]
  simp
set_option maxRecDepth 100000 in
set_option maxHeartbeats 4000000 in
theorem put_step (F : Nat) (d : Det) (p : PV) (w : World) (hF : F ≤ w.heap.size) (hV : RdV w d p) (hy : ∀ b, some b ∈ p.fp → F ≤ b) (hm : manyD d ≤ 1000000) (NM : ByteArray) (a0 a1 : Int) (v : Value) (hv : IsI [a0, a1] v w) (hk : ∀ g, v.ownBlock = some g → some g ∉ p.fp) (hne0 : d.dems ≠ []) : Calls Tryz.prog 64 #[.agg (detC d p), .string ⟨#[115, 116, 101, 112]⟩, .string NM, v] w (PutE F w { d with dems := stepD d.dems [a0, a1] }) := by
 obtain ⟨k, hk1⟩ : ∃ k, k + 1 = d.dems.length := ⟨d.dems.length - 1, by have := List.length_pos_iff.2 hne0; omega⟩
 obtain ⟨K, off, cp, rfl, -, -, hlt, hc⟩ := hv.cells (by simp)
 have q0 : w.cell? ⟨K, off, none⟩ = some (.int .i64 a0) := hc 0 (by simp)
 have q1 : w.cell? ⟨K, off + 1, none⟩ = some (.int .i64 a1) := hc 1 (by simp)
 have hArg : Hid (∀ W : World, W.heap[K]? = w.heap[K]? → W.cell? ⟨K, off, none⟩ = some (.int .i64 a0) ∧ W.cell? ⟨K, off + 1, none⟩ = some (.int .i64 a1)) := Lib.hid fun W h => ⟨(World.cell?_of_block h).trans q0, (World.cell?_of_block h).trans q1⟩
 have hP0 := Lib.hid (PutW.start hF hlt hV hy (hk K rfl))
 clear hc hv hk hy hV hF q0 q1
 show Calls _ _ #[_, _, _, .slice (some ⟨K, off, none⟩) 2 cp] _ _
 go_enter Tryz.func64, Tryz.ntmps64
 go_upto_region 2 with fail
 generalize hWW : World.alloc (World.alloc w _) _ = WW
 have hP : Hid (PutW F w K d p WW) := Lib.hid (by rw [← hWW]; exact hP0.out)
 have hPD := Lib.hid (hP.out.up (below_drew (Below.refl _ _)))
 clear hWW hP0
 have h1 : k < d.dems.length := by omega
 have h2 : k < p.ds.length := by rw [hP.out.vals.ns]; exact h1
 obtain ⟨G, cap, cur, hvd, kG, hcur⟩ := hP.out.vals.last hk1
 have hcur := hcur h1 h2
 have hst := hP.out.vals.steps k h1 h2
 obtain ⟨so, sc, hSV, hsc, -⟩ := hst.view (encK_len 2)
 obtain ⟨m, hm0⟩ : ∃ m, d.dems[k].2.2.length = m := ⟨_, rfl⟩
 rw [hm0] at hSV hsc
 have hm6 : m ≤ 1000000 := by
  have := mem_le_sum (List.getElem_mem h1)
  unfold manyD at hm
  omega
 obtain ⟨i0, hi0, hz0, hz1, hz2⟩ := info_parts infoStep
 obtain ⟨NM0, hNM0⟩ : ∃ N : ByteArray, N = ⟨d.dems[k].1.toArray⟩ := ⟨_, rfl⟩
 obtain ⟨z0, hz0z⟩ : ∃ z, z = d.dems[k].2.1.getD 0 0 := ⟨_, rfl⟩
 obtain ⟨z1, hz1z⟩ : ∃ z, z = d.dems[k].2.1.getD 1 0 := ⟨_, rfl⟩
 obtain ⟨z2, hz2z⟩ : ∃ z, z = d.dems[k].2.1.getD 2 0 := ⟨_, rfl⟩
 obtain ⟨z3, hz3z⟩ : ∃ z, z = d.dems[k].2.1.getD 3 0 := ⟨_, rfl⟩
 obtain ⟨z4, hz4z⟩ : ∃ z, z = d.dems[k].2.1.getD 4 0 := ⟨_, rfl⟩
 obtain ⟨z5, hz5z⟩ : ∃ z, z = d.dems[k].2.1.getD 5 0 := ⟨_, rfl⟩
 have hc8 : ∀ (j : Nat) (u : Value), ([.string NM0, .int .i64 z0, .int .i64 z1, .int .i64 z2, .int .i64 z3, .int .i64 z4, .int .i64 z5, .slice so m sc] : List Value)[j]? = some u → cur[k * 8 + j]? = some u := fun j u hu => hcur j u (by rw [← hu, hNM0, hz0z, hz1z, hz2z, hz3z, hz4z, hz5z, ← hSV]; rfl)
 have hvo : p.vd.ownBlock = some G := by rw [hvd]; rfl
 have hY9 : Hid (∀ W : World, At W w.heap.size 34 (detC d p) → W.cell? ⟨w.heap.size, 9, none⟩ = some (.slice (some ⟨G, 0, none⟩) (k + 1) cap)) := Lib.hid fun W h => by
  rw [h.c 9, ← hvd]
  simp [detC, encK, List.range, List.range.loop]
 have hOw : Hid (∀ W : World, PutW F w K d p W → W.ownsRow 0 86 2 (.slice so m sc) m (d.dems[k].2.2.flatMap (encK 2))) := Lib.hid fun W h => by
  have q := h.vals.steps k h1 h2
  unfold Row at q
  rw [hSV, hm0] at q
  exact q
 have hGne : G ≠ w.heap.size ∧ G ≠ w.heap.size + 1 := by
  have := hP.out.far G (by rw [← hvo]; simp [PV.fp])
  exact ⟨this.2.1, this.2.2.1⟩
 have hGl := kG.lt
 have hsG : (Value.slice so m sc).ownBlock ≠ some G := by
  intro e
  have hs := List.pairwise_iff_getElem.1 hP.out.vals.sep
  obtain ⟨hj, e1⟩ := fp_ds (p := p) h2
  exact hs 5 (6 + p.db.length + k) (by have := fp_six (p := p); omega) hj (by omega) G hvo (by rw [e1, hSV]; exact e)
 have hsl : ∀ b, (Value.slice so m sc).ownBlock = some b → b < WW.heap.size := fun b e => hst.lt (by rw [hSV]; exact e)
 have hPu : Hid (∀ (W3 WB w5 : World) (g5 : Option Addr) (c5 : Nat), Below WW.heap.size WW W3 → At W3 WW.heap.size 63 #[.string NM0, .int .i64 z0, .int .i64 z1, .int .i64 z2, .int .i64 z3, .int .i64 z4, .int .i64 z5, .slice so m sc] → Below W3.heap.size W3 WB → w5.ownsRow 0 86 2 (.slice g5 (m + 1) c5) (m + 1) (d.dems[k].2.2.flatMap (encK 2) ++ [.int .i64 a0, .int .i64 a1]) → WB.grownBy w5 (Value.slice so m sc).ownBlock → ((Value.slice g5 (m + 1) c5).ownBlock = (Value.slice so m sc).ownBlock ∨ (Value.slice g5 (m + 1) c5).ownBlock = some WB.heap.size) →
   w5.cell? ⟨WW.heap.size, 7, none⟩ = some (.slice so m sc) ∧ w5.frozen? ⟨WW.heap.size, 7, none⟩ = false ∧ w5.heap[K]? = w.heap[K]? ∧ (w5.setCell ⟨WW.heap.size, 7, none⟩ (.slice g5 (m + 1) c5)).heap[K]? = w.heap[K]? ∧ At (w5.setCell ⟨WW.heap.size, 7, none⟩ (.slice g5 (m + 1) c5)) WW.heap.size 63 #[.string NM0, .int .i64 z0, .int .i64 z1, .int .i64 z2, .int .i64 z3, .int .i64 z4, .int .i64 z5, .slice g5 (m + 1) c5] ∧ At (w5.setCell ⟨WW.heap.size, 7, none⟩ (.slice g5 (m + 1) c5)) G 63 cur ∧ At (w5.setCell ⟨WW.heap.size, 7, none⟩ (.slice g5 (m + 1) c5)) w.heap.size 34 (detC d p) ∧ Hid (PutW F w K { d with dems := stepD d.dems [a0, a1] } { p with ds := p.ds.set k (.slice g5 (m + 1) c5) } ((w5.setCell ⟨WW.heap.size, 7, none⟩ (.slice g5 (m + 1) c5)).setCell ⟨G, k * 8 + 7, none⟩ (.slice g5 (m + 1) c5)))) := Lib.hid fun W3 WB w5 g5 c5 hb3 kD hbB ho5 hg5 hloc => by
  have kDl := kD.lt
  have hbs := hbB.size
  have kB := kD.bel hbB
  have k5 : At w5 WW.heap.size 63 #[.string NM0, .int .i64 z0, .int .i64 z1, .int .i64 z2, .int .i64 z3, .int .i64 z4, .int .i64 z5, .slice so m sc] := (hg5.block _ kB.lt fun e => by have := hsl _ e.symm; omega).trans kB
  have hgw : WW.grownBy w5 (Value.slice so m sc).ownBlock := grown_after (hb3.trans (hbB.mono (by omega))) hg5
  have hg6 : WW.grownBy (w5.setCell ⟨WW.heap.size, 7, none⟩ (.slice g5 (m + 1) c5)) (Value.slice so m sc).ownBlock := ⟨hgw.os, hgw.tape, hgw.output, by simp [World.setCell]; exact hgw.size, fun j hj hn => (Below.heap_setCell w5 ⟨WW.heap.size, 7, none⟩ _ j (by dsimp only; omega)).trans (hgw.block j hj hn)⟩
  have hown : ∀ b, (Value.slice g5 (m + 1) c5).ownBlock = some b → b ≠ WW.heap.size := fun b e => by
   rcases hloc with q | q
   ·have := hsl b (by rw [← q]; exact e)
    omega
   ·rw [q] at e
    injection e with e
    omega
  have ho6 : (w5.setCell ⟨WW.heap.size, 7, none⟩ (.slice g5 (m + 1) c5)).ownsRow 0 86 2 (.slice g5 (m + 1) c5) (m + 1) (d.dems[k].2.2.flatMap (encK 2) ++ [.int .i64 a0, .int .i64 a1]) :=
   ⟨ho5.1, ho5.2.imp id fun ⟨g, cap, cur, q1, q2, q3, q4⟩ => ⟨g, cap, cur, q1, q2, (Below.heap_setCell w5 ⟨WW.heap.size, 7, none⟩ _ g (hown g (by rw [q1]; rfl))).trans q3, q4⟩⟩
  have hl6 : (Value.slice g5 (m + 1) c5).ownBlock = p.ds[k].ownBlock ∨ (Value.slice g5 (m + 1) c5).ownBlock = some WB.heap.size := by rw [hSV]; exact hloc
  obtain ⟨hk6, h6⟩ := hP.out.pushS (v' := .slice g5 (m + 1) c5) (n := [a0, a1]) hk1 h1 h2 (by rw [hSV]; exact hg6) (by rw [hm0]; exact ho6) (m := WB.heap.size) (by have := hb3.size; omega) hl6 hvo
  have hfar := hP.out.far
  obtain ⟨hj, e1⟩ := fp_ds (p := p) h2
  have hx5 : At w5 w.heap.size 34 (detC d p) := (hgw.block _ hP.out.kx.lt fun e => (hfar w.heap.size (by rw [e, ← hSV, ← e1]; exact List.getElem_mem hj)).2.1 rfl).trans hP.out.kx
  have hG5 : At w5 G 63 cur := (hgw.block G hGl fun e => hsG e.symm).trans kG
  have hkw : w5.heap[K]? = w.heap[K]? := (hgw.block K (by have := hP.out.kx.lt; have := hP.out.kl; omega) fun e => (hfar K (by rw [e, ← hSV, ← e1]; exact List.getElem_mem hj)).2.2.2 rfl).trans hP.out.arg
  refine ⟨k5.c 7, k5.f 7, hkw, hk6, ?_, hG5.ne _ _ (by dsimp only; omega), hx5.ne _ _ (by have := hP.out.kx.lt; dsimp only; omega), Lib.hid h6⟩
  have := k5.put 7 (.slice g5 (m + 1) c5)
  simpa using this
 have hw1 : IntKind.i64.wrap (((k + 1 : Nat) : Int) - 1) = (k : Int) := by rw [wrap_in (by unfold manyD at hm; omega)]; omega
 have hk6 : k ≤ 1000000 := by unfold manyD at hm; omega
 have y9 := hY9.out WW hP.out.kx
 have g0 : WW.cell? ⟨G, k * 8, none⟩ = some (.string NM0) := (kG.c _).trans (hc8 0 _ rfl)
 have g1 : WW.cell? ⟨G, k * 8 + 1, none⟩ = some (.int .i64 z0) := (kG.c _).trans (hc8 1 _ rfl)
 have g2 : WW.cell? ⟨G, k * 8 + 2, none⟩ = some (.int .i64 z1) := (kG.c _).trans (hc8 2 _ rfl)
 have g3 : WW.cell? ⟨G, k * 8 + 3, none⟩ = some (.int .i64 z2) := (kG.c _).trans (hc8 3 _ rfl)
 have g4 : WW.cell? ⟨G, k * 8 + 4, none⟩ = some (.int .i64 z3) := (kG.c _).trans (hc8 4 _ rfl)
 have g5 : WW.cell? ⟨G, k * 8 + 5, none⟩ = some (.int .i64 z4) := (kG.c _).trans (hc8 5 _ rfl)
 have g6 : WW.cell? ⟨G, k * 8 + 6, none⟩ = some (.int .i64 z5) := (kG.c _).trans (hc8 6 _ rfl)
 have g7 : WW.cell? ⟨G, k * 8 + 7, none⟩ = some (.slice so m sc) := (kG.c _).trans (hc8 7 _ rfl)
 have hcc : Hid (∀ (j : Nat) (u : Value), ([.string NM0, .int .i64 z0, .int .i64 z1, .int .i64 z2, .int .i64 z3, .int .i64 z4, .int .i64 z5, .slice so m sc] : List Value)[j]? = some u → cur[k * 8 + j]? = some u) := Lib.hid hc8
 have hPD0 := hP
 replace hk1 := Lib.hid hk1
 clear hm hst hSV hsc hm0 hNM0 hz0z hz1z hz2z hz3z hz4z hz5z hcur hc8 hvo hGl hsG hsl kG hvd hne0
 go_upto_region 3 with fail
 generalize hW3 : World.alloc WW _ = W3
 have kD : At W3 WW.heap.size 63 #[.string NM0, .int .i64 z0, .int .i64 z1, .int .i64 z2, .int .i64 z3, .int .i64 z4, .int .i64 z5, .slice so m sc] := by rw [← hW3]; exact At.new' rfl
 have hb3 : Below WW.heap.size WW W3 := by rw [← hW3]; exact below_al (Below.refl _ _) _
 clear hW3 y9 g0 g1 g2 g3 g4 g5 g6 g7 hPD
 have hP3 := Lib.hid (hP.out.up hb3)
 have hPD := Lib.hid (hP3.out.up (below_drew (Below.refl _ _)))
 have hPA : Hid (PutW F w K d p (World.drew (World.alloc W3 (.cells #[.int .i64 a0, .int .i64 a1] 86)))) := Lib.hid (hP3.out.up (below_drew (below_al (Below.refl _ _) _)))
 have hNA : Hid (∀ j u, ([.int .i64 a0, .int .i64 a1] : List Value)[j]? = some u → (World.drew (World.alloc W3 (.cells #[.int .i64 a0, .int .i64 a1] 86))).cell? ((⟨W3.heap.size, 0, none⟩ : Addr).add j) = some u) := Lib.hid (new_at (At.drw (At.new' rfl)))
 have hBA : Below W3.heap.size W3 (World.drew (World.alloc W3 (.cells #[.int .i64 a0, .int .i64 a1] 86))) := below_drew (below_al (Below.refl _ _) _)
 have yD : (World.drew W3).cell? ⟨WW.heap.size, 7, none⟩ = some (.slice so m sc) := (kD.bel (below_drew (Below.refl _ _))).c 7
 have yA : (World.drew (World.alloc W3 (.cells #[.int .i64 a0, .int .i64 a1] 86))).cell? ⟨WW.heap.size, 7, none⟩ = some (.slice so m sc) := (kD.bel hBA).c 7
 refine wp_region_noPanic ?_
 refine wp_region_held_drew (S := fun W => W.cell? ⟨K, off, none⟩ = some (.int .i64 a0) ∧ W.cell? ⟨K, off + 1, none⟩ = some (.int .i64 a1)) (by kernel_rfl) ?_ (fun hHeld => ?_)
 ·(try dsimp only); exact hArg.out _ (by first | exact hK6 | exact hK5 | exact hPA.out.arg | exact hPD.out.arg)
 refine tak (i := 0) (v := ?_) (gt rfl) ?_ ?_
 rotate_left
 focus (intro W hSW; (try dsimp only at hSW); obtain ⟨z0, z1⟩ := hSW; go_simp; first | done | with_reducible rfl)
 (try simp only [pu, pn, si, s0, sn])
 refine tak (i := 2) (v := ?_) (gt rfl) ?_ ?_
 rotate_left
 focus (intro W hSW; (try dsimp only at hSW); obtain ⟨z0, z1⟩ := hSW; go_simp; first | done | with_reducible rfl)
 (try simp only [pu, pn, si, s0, sn])
 refine tak (i := 3) (v := ?_) (gt rfl) ?_ ?_
 rotate_left
 focus (intro W hSW; (try dsimp only at hSW); obtain ⟨z0, z1⟩ := hSW; go_simp; first | done | with_reducible rfl)
 (try simp only [pu, pn, si, s0, sn])
 refine tak (i := 4) (v := ?_) (gt rfl) ?_ ?_
 rotate_left
 focus (intro W hSW; (try dsimp only at hSW); obtain ⟨z0, z1⟩ := hSW; go_simp; first | done | with_reducible rfl)
 (try simp only [pu, pn, si, s0, sn])
 refine tak (i := 5) (v := ?_) (gt rfl) ?_ ?_
 rotate_left
 focus (intro W hSW; (try dsimp only at hSW); obtain ⟨z0, z1⟩ := hSW; go_simp; first | done | with_reducible rfl)
 (try simp only [pu, pn, si, s0, sn])
 refine tak (i := 6) (v := ?_) (gt rfl) ?_ ?_
 rotate_left
 focus (intro W hSW; (try dsimp only at hSW); obtain ⟨z0, z1⟩ := hSW; go_simp; first | done | with_reducible rfl)
 (try simp only [pu, pn, si, s0, sn])
 refine tak (i := 7) (v := ?_) (gt rfl) ?_ ?_
 rotate_left
 focus (intro W hSW; (try dsimp only at hSW); obtain ⟨z0, z1⟩ := hSW; go_simp; first | done | with_reducible rfl)
 (try simp only [pu, pn, si, s0, sn])
 refine tak (i := 8) (v := ?_) (gt rfl) ?_ ?_
 rotate_left
 focus (intro W hSW; (try dsimp only at hSW); obtain ⟨z0, z1⟩ := hSW; go_simp; first | done | with_reducible rfl)
 (try simp only [pu, pn, si, s0, sn])
 refine wpAnyH_ready (rs := [1, 9]) (by kernel_rfl) (by simp) ?_
 refine AllReadyH.cons (i := 1) (gt rfl) (fun K hK => ?_) ?_
 ·go_simp
  refine hK.out _ _ ?_ (fun hHeld => ?_)
  ·(try dsimp only); exact hArg.out _ (by first | exact hK6 | exact hK5 | exact hPA.out.arg | exact hPD.out.arg)
  clear hK K
  (try simp only [pu, pn, si, s0, sn])
  refine wpAnyH_ready (rs := [9]) (by kernel_rfl) (by simp) ?_
  refine AllReadyH.cons (i := 9) (gt rfl) (fun K hK => ?_) ?_
  ·go_simp
   refine hK.out _ _ ?_ (fun hHeld => ?_)
   ·(try dsimp only); exact hArg.out _ (by first | exact hK6 | exact hK5 | exact hPA.out.arg | exact hPD.out.arg)
   clear hK K
   (try simp only [pu, pn, si, s0, sn])
   refine wpAnyH_ready (rs := [10]) (by kernel_rfl) (by simp) ?_
   refine AllReadyH.cons (i := 10) (gt rfl) (fun K hK => ?_) ?_
   ·refine step_append_w _ (by rfl) (.tmp 20) (.tmp 28) 61 rfl 0 86 i0 _ 2 16 Tryz.underlying61 hi0 hz0 hz1 hz2 rfl (by decide) (.slice so m sc) m (d.dems[k].2.2.flatMap (encK 2)) (by first | rfl | (simp [Act.eval]; done)) (hOw.out _ hPA.out) ⟨W3.heap.size, 0, none⟩ 1 1 [.int .i64 a0, .int .i64 a1] (by first | rfl | (simp [Act.eval]; done)) rfl hNA.out (by intro u hu; simp at hu; rcases hu with rfl | rfl <;> rfl) (by unfold maxLen; omega) (by omega) (Nat.zero_le _) ?_
    intro g5 c5 w5 ho5 hg5 hl5
    obtain ⟨y5, f5, hK5, hK6, kd6, kG6, kx6, hP7⟩ := hPu.out W3 _ w5 g5 c5 hb3 kD hBA ho5 hg5 hl5
    clear ho5 hg5 hl5 hPu
    refine hK.out _ _ ?_ (fun hHeld => ?_)
    ·(try dsimp only); exact hArg.out _ (by first | exact hK6 | exact hK5 | exact hPA.out.arg | exact hPD.out.arg)
    clear hK K
    (try simp only [pu, pn, si, s0, sn])
    refine tak (i := 11) (v := ?_) (gt rfl) ?_ ?_
    rotate_left
    focus (intro W hSW; (try dsimp only at hSW); obtain ⟨z0, z1⟩ := hSW; go_simp; first | done | with_reducible rfl)
    (try simp only [pu, pn, si, s0, sn])
    refine wpAnyH_ready (rs := [12]) (by kernel_rfl) (by simp) ?_
    refine AllReadyH.cons (i := 12) (gt rfl) (fun K hK => ?_) ?_
    ·go_simp
     refine hK.out _ _ ?_ (fun hHeld => ?_)
     ·(try dsimp only); exact hArg.out _ (by first | exact hK6 | exact hK5 | exact hPA.out.arg | exact hPD.out.arg)
     clear hK K
     (try simp only [pu, pn, si, s0, sn])
     refine wpAnyH_done (by kernel_rfl) ?_ _
     refine NoPanic.normal ?_
     generalize hW6 : World.setCell w5 _ _ = W6 at *
     have y9 := hY9.out W6 kx6
     have d0 : W6.cell? ⟨WW.heap.size, 0, none⟩ = some (.string NM0) := kd6.c 0
     have d1 : W6.cell? ⟨WW.heap.size, 1, none⟩ = some (.int .i64 z0) := kd6.c 1
     have d2 : W6.cell? ⟨WW.heap.size, 2, none⟩ = some (.int .i64 z1) := kd6.c 2
     have d3 : W6.cell? ⟨WW.heap.size, 3, none⟩ = some (.int .i64 z2) := kd6.c 3
     have d4 : W6.cell? ⟨WW.heap.size, 4, none⟩ = some (.int .i64 z3) := kd6.c 4
     have d5 : W6.cell? ⟨WW.heap.size, 5, none⟩ = some (.int .i64 z4) := kd6.c 5
     have d6 : W6.cell? ⟨WW.heap.size, 6, none⟩ = some (.int .i64 z5) := kd6.c 6
     have d7 : W6.cell? ⟨WW.heap.size, 7, none⟩ = some (.slice g5 (m + 1) c5) := kd6.c 7
     have gg0 : W6.cell? ⟨G, k * 8, none⟩ = some (.string NM0) := (kG6.c _).trans (hcc.out 0 _ rfl)
     have gg1 : W6.cell? ⟨G, k * 8 + 1, none⟩ = some (.int .i64 z0) := (kG6.c _).trans (hcc.out 1 _ rfl)
     have gg2 : W6.cell? ⟨G, k * 8 + 2, none⟩ = some (.int .i64 z1) := (kG6.c _).trans (hcc.out 2 _ rfl)
     have gg3 : W6.cell? ⟨G, k * 8 + 3, none⟩ = some (.int .i64 z2) := (kG6.c _).trans (hcc.out 3 _ rfl)
     have gg4 : W6.cell? ⟨G, k * 8 + 4, none⟩ = some (.int .i64 z3) := (kG6.c _).trans (hcc.out 4 _ rfl)
     have gg5 : W6.cell? ⟨G, k * 8 + 5, none⟩ = some (.int .i64 z4) := (kG6.c _).trans (hcc.out 5 _ rfl)
     have gg6 : W6.cell? ⟨G, k * 8 + 6, none⟩ = some (.int .i64 z5) := (kG6.c _).trans (hcc.out 6 _ rfl)
     have gg7 : W6.cell? ⟨G, k * 8 + 7, none⟩ = some (.slice so m sc) := (kG6.c _).trans (hcc.out 7 _ rfl)
     have ff0 : W6.frozen? ⟨G, k * 8, none⟩ = false := kG6.f _
     have ff1 : W6.frozen? ⟨G, k * 8 + 1, none⟩ = false := kG6.f _
     have ff2 : W6.frozen? ⟨G, k * 8 + 2, none⟩ = false := kG6.f _
     have ff3 : W6.frozen? ⟨G, k * 8 + 3, none⟩ = false := kG6.f _
     have ff4 : W6.frozen? ⟨G, k * 8 + 4, none⟩ = false := kG6.f _
     have ff5 : W6.frozen? ⟨G, k * 8 + 5, none⟩ = false := kG6.f _
     have ff6 : W6.frozen? ⟨G, k * 8 + 6, none⟩ = false := kG6.f _
     have ff7 : W6.frozen? ⟨G, k * 8 + 7, none⟩ = false := kG6.f _
     have hSet : Hid (∀ W7, (World.setCell (World.setCell (World.setCell (World.setCell (World.setCell (World.setCell (World.setCell (World.setCell W6 ⟨G, k * 8, none⟩ (.string NM0)) ⟨G, k * 8 + 1, none⟩ (.int .i64 z0)) ⟨G, k * 8 + 2, none⟩ (.int .i64 z1)) ⟨G, k * 8 + 3, none⟩ (.int .i64 z2)) ⟨G, k * 8 + 4, none⟩ (.int .i64 z3)) ⟨G, k * 8 + 5, none⟩ (.int .i64 z4)) ⟨G, k * 8 + 6, none⟩ (.int .i64 z5)) ⟨G, k * 8 + 7, none⟩ (.slice g5 (m + 1) c5)) = W7 → W7 = W6.setCell ⟨G, k * 8 + 7, none⟩ (.slice g5 (m + 1) c5)) := Lib.hid fun W7 e => by
      rw [← e, At.setSelf (j := k * 8) (v := (.string NM0)) kG6 (hcc.out 0 _ rfl), At.setSelf (j := k * 8 + 1) (v := (.int .i64 z0)) kG6 (hcc.out 1 _ rfl), At.setSelf (j := k * 8 + 2) (v := (.int .i64 z1)) kG6 (hcc.out 2 _ rfl), At.setSelf (j := k * 8 + 3) (v := (.int .i64 z2)) kG6 (hcc.out 3 _ rfl), At.setSelf (j := k * 8 + 4) (v := (.int .i64 z3)) kG6 (hcc.out 4 _ rfl), At.setSelf (j := k * 8 + 5) (v := (.int .i64 z4)) kG6 (hcc.out 5 _ rfl), At.setSelf (j := k * 8 + 6) (v := (.int .i64 z5)) kG6 (hcc.out 6 _ rfl)]
     clear hHeld hW6 hK5 hK6 y5 f5 kd6 kx6 hPD hPA hP3 hP hPD0 hNA hBA yD yA kD hb3
     go_upto_region 21 with fail
     generalize hW7 : World.setCell _ _ _ = W7
     obtain rfl := hSet.out W7 hW7
     clear hSet gg0 ff0 d0 gg1 ff1 d1 gg2 ff2 d2 gg3 ff3 d3 gg4 ff4 d4 gg5 ff5 d5 gg6 ff6 d6 gg7 ff7 d7 y9 hW7
     have kx7 := hP7.out.kx
     have kz7 := hP7.out.kz
     have h1c := detC_one hP7.out.vals
     obtain ⟨kr, hE⟩ := hP7.out.fin
     replace hE := Lib.hid hE
     generalize World.setCell _ _ _ = W8 at *
     have hs6 := Lib.hid (detC_size { d with dems := stepD d.dems [a0, a1] } { p with ds := p.ds.set k (.slice g5 (m + 1) c5) })
     generalize detC { d with dems := stepD d.dems [a0, a1] } { p with ds := p.ds.set k (.slice g5 (m + 1) c5) } = cs at *
     clear hP7
     go_wp2_with (first | (refine wpList_load_row rfl 34 (.tmp 4) rfl w.heap.size (by simp [Act.eval]) 34 cs (0, 0) _ kx7 Tryz.underlying34 rfl (by rw [hs6.out]; kernel_rfl) ?_) | (refine wpList_store_row rfl 34 (.tmp 8) (.tmp 202) rfl (w.heap.size + 1) cs (by simp [Act.eval, Act.put]) (by simp [Act.eval, Act.put]) 34 zeroD kz7 (by rw [hs6.out]; kernel_rfl) (by rw [hs6.out]; rfl) h1c ?_) | fail)
     exact bodyPost_ret (put_results _ _ (w.heap.size + 1) cs rfl kr hs6.out) rfl hE.out
    exact AllReadyH.nil
   exact AllReadyH.nil
  exact AllReadyH.nil
 refine AllReadyH.cons (i := 9) (gt rfl) (fun K hK => ?_) ?_
 ·go_simp
  refine hK.out _ _ ?_ (fun hHeld => ?_)
  ·(try dsimp only); exact hArg.out _ (by first | exact hK6 | exact hK5 | exact hPA.out.arg | exact hPD.out.arg)
  clear hK K
  (try simp only [pu, pn, si, s0, sn])
  refine wpAnyH_ready (rs := [1]) (by kernel_rfl) (by simp) ?_
  refine AllReadyH.cons (i := 1) (gt rfl) (fun K hK => ?_) ?_
  ·go_simp
   refine hK.out _ _ ?_ (fun hHeld => ?_)
   ·(try dsimp only); exact hArg.out _ (by first | exact hK6 | exact hK5 | exact hPA.out.arg | exact hPD.out.arg)
   clear hK K
   (try simp only [pu, pn, si, s0, sn])
   refine wpAnyH_ready (rs := [10]) (by kernel_rfl) (by simp) ?_
   refine AllReadyH.cons (i := 10) (gt rfl) (fun K hK => ?_) ?_
   ·refine step_append_w _ (by rfl) (.tmp 20) (.tmp 28) 61 rfl 0 86 i0 _ 2 16 Tryz.underlying61 hi0 hz0 hz1 hz2 rfl (by decide) (.slice so m sc) m (d.dems[k].2.2.flatMap (encK 2)) (by first | rfl | (simp [Act.eval]; done)) (hOw.out _ hPA.out) ⟨W3.heap.size, 0, none⟩ 1 1 [.int .i64 a0, .int .i64 a1] (by first | rfl | (simp [Act.eval]; done)) rfl hNA.out (by intro u hu; simp at hu; rcases hu with rfl | rfl <;> rfl) (by unfold maxLen; omega) (by omega) (Nat.zero_le _) ?_
    intro g5 c5 w5 ho5 hg5 hl5
    obtain ⟨y5, f5, hK5, hK6, kd6, kG6, kx6, hP7⟩ := hPu.out W3 _ w5 g5 c5 hb3 kD hBA ho5 hg5 hl5
    clear ho5 hg5 hl5 hPu
    refine hK.out _ _ ?_ (fun hHeld => ?_)
    ·(try dsimp only); exact hArg.out _ (by first | exact hK6 | exact hK5 | exact hPA.out.arg | exact hPD.out.arg)
    clear hK K
    (try simp only [pu, pn, si, s0, sn])
    refine tak (i := 11) (v := ?_) (gt rfl) ?_ ?_
    rotate_left
    focus (intro W hSW; (try dsimp only at hSW); obtain ⟨z0, z1⟩ := hSW; go_simp; first | done | with_reducible rfl)
    (try simp only [pu, pn, si, s0, sn])
    refine wpAnyH_ready (rs := [12]) (by kernel_rfl) (by simp) ?_
    refine AllReadyH.cons (i := 12) (gt rfl) (fun K hK => ?_) ?_
    ·go_simp
     refine hK.out _ _ ?_ (fun hHeld => ?_)
     ·(try dsimp only); exact hArg.out _ (by first | exact hK6 | exact hK5 | exact hPA.out.arg | exact hPD.out.arg)
     clear hK K
     (try simp only [pu, pn, si, s0, sn])
     refine wpAnyH_done (by kernel_rfl) ?_ _
     refine NoPanic.normal ?_
     generalize hW6 : World.setCell w5 _ _ = W6 at *
     have y9 := hY9.out W6 kx6
     have d0 : W6.cell? ⟨WW.heap.size, 0, none⟩ = some (.string NM0) := kd6.c 0
     have d1 : W6.cell? ⟨WW.heap.size, 1, none⟩ = some (.int .i64 z0) := kd6.c 1
     have d2 : W6.cell? ⟨WW.heap.size, 2, none⟩ = some (.int .i64 z1) := kd6.c 2
     have d3 : W6.cell? ⟨WW.heap.size, 3, none⟩ = some (.int .i64 z2) := kd6.c 3
     have d4 : W6.cell? ⟨WW.heap.size, 4, none⟩ = some (.int .i64 z3) := kd6.c 4
     have d5 : W6.cell? ⟨WW.heap.size, 5, none⟩ = some (.int .i64 z4) := kd6.c 5
     have d6 : W6.cell? ⟨WW.heap.size, 6, none⟩ = some (.int .i64 z5) := kd6.c 6
     have d7 : W6.cell? ⟨WW.heap.size, 7, none⟩ = some (.slice g5 (m + 1) c5) := kd6.c 7
     have gg0 : W6.cell? ⟨G, k * 8, none⟩ = some (.string NM0) := (kG6.c _).trans (hcc.out 0 _ rfl)
     have gg1 : W6.cell? ⟨G, k * 8 + 1, none⟩ = some (.int .i64 z0) := (kG6.c _).trans (hcc.out 1 _ rfl)
     have gg2 : W6.cell? ⟨G, k * 8 + 2, none⟩ = some (.int .i64 z1) := (kG6.c _).trans (hcc.out 2 _ rfl)
     have gg3 : W6.cell? ⟨G, k * 8 + 3, none⟩ = some (.int .i64 z2) := (kG6.c _).trans (hcc.out 3 _ rfl)
     have gg4 : W6.cell? ⟨G, k * 8 + 4, none⟩ = some (.int .i64 z3) := (kG6.c _).trans (hcc.out 4 _ rfl)
     have gg5 : W6.cell? ⟨G, k * 8 + 5, none⟩ = some (.int .i64 z4) := (kG6.c _).trans (hcc.out 5 _ rfl)
     have gg6 : W6.cell? ⟨G, k * 8 + 6, none⟩ = some (.int .i64 z5) := (kG6.c _).trans (hcc.out 6 _ rfl)
     have gg7 : W6.cell? ⟨G, k * 8 + 7, none⟩ = some (.slice so m sc) := (kG6.c _).trans (hcc.out 7 _ rfl)
     have ff0 : W6.frozen? ⟨G, k * 8, none⟩ = false := kG6.f _
     have ff1 : W6.frozen? ⟨G, k * 8 + 1, none⟩ = false := kG6.f _
     have ff2 : W6.frozen? ⟨G, k * 8 + 2, none⟩ = false := kG6.f _
     have ff3 : W6.frozen? ⟨G, k * 8 + 3, none⟩ = false := kG6.f _
     have ff4 : W6.frozen? ⟨G, k * 8 + 4, none⟩ = false := kG6.f _
     have ff5 : W6.frozen? ⟨G, k * 8 + 5, none⟩ = false := kG6.f _
     have ff6 : W6.frozen? ⟨G, k * 8 + 6, none⟩ = false := kG6.f _
     have ff7 : W6.frozen? ⟨G, k * 8 + 7, none⟩ = false := kG6.f _
     have hSet : Hid (∀ W7, (World.setCell (World.setCell (World.setCell (World.setCell (World.setCell (World.setCell (World.setCell (World.setCell W6 ⟨G, k * 8, none⟩ (.string NM0)) ⟨G, k * 8 + 1, none⟩ (.int .i64 z0)) ⟨G, k * 8 + 2, none⟩ (.int .i64 z1)) ⟨G, k * 8 + 3, none⟩ (.int .i64 z2)) ⟨G, k * 8 + 4, none⟩ (.int .i64 z3)) ⟨G, k * 8 + 5, none⟩ (.int .i64 z4)) ⟨G, k * 8 + 6, none⟩ (.int .i64 z5)) ⟨G, k * 8 + 7, none⟩ (.slice g5 (m + 1) c5)) = W7 → W7 = W6.setCell ⟨G, k * 8 + 7, none⟩ (.slice g5 (m + 1) c5)) := Lib.hid fun W7 e => by
      rw [← e, At.setSelf (j := k * 8) (v := (.string NM0)) kG6 (hcc.out 0 _ rfl), At.setSelf (j := k * 8 + 1) (v := (.int .i64 z0)) kG6 (hcc.out 1 _ rfl), At.setSelf (j := k * 8 + 2) (v := (.int .i64 z1)) kG6 (hcc.out 2 _ rfl), At.setSelf (j := k * 8 + 3) (v := (.int .i64 z2)) kG6 (hcc.out 3 _ rfl), At.setSelf (j := k * 8 + 4) (v := (.int .i64 z3)) kG6 (hcc.out 4 _ rfl), At.setSelf (j := k * 8 + 5) (v := (.int .i64 z4)) kG6 (hcc.out 5 _ rfl), At.setSelf (j := k * 8 + 6) (v := (.int .i64 z5)) kG6 (hcc.out 6 _ rfl)]
     clear hHeld hW6 hK5 hK6 y5 f5 kd6 kx6 hPD hPA hP3 hP hPD0 hNA hBA yD yA kD hb3
     go_upto_region 21 with fail
     generalize hW7 : World.setCell _ _ _ = W7
     obtain rfl := hSet.out W7 hW7
     clear hSet gg0 ff0 d0 gg1 ff1 d1 gg2 ff2 d2 gg3 ff3 d3 gg4 ff4 d4 gg5 ff5 d5 gg6 ff6 d6 gg7 ff7 d7 y9 hW7
     have kx7 := hP7.out.kx
     have kz7 := hP7.out.kz
     have h1c := detC_one hP7.out.vals
     obtain ⟨kr, hE⟩ := hP7.out.fin
     replace hE := Lib.hid hE
     generalize World.setCell _ _ _ = W8 at *
     have hs6 := Lib.hid (detC_size { d with dems := stepD d.dems [a0, a1] } { p with ds := p.ds.set k (.slice g5 (m + 1) c5) })
     generalize detC { d with dems := stepD d.dems [a0, a1] } { p with ds := p.ds.set k (.slice g5 (m + 1) c5) } = cs at *
     clear hP7
     go_wp2_with (first | (refine wpList_load_row rfl 34 (.tmp 4) rfl w.heap.size (by simp [Act.eval]) 34 cs (0, 0) _ kx7 Tryz.underlying34 rfl (by rw [hs6.out]; kernel_rfl) ?_) | (refine wpList_store_row rfl 34 (.tmp 8) (.tmp 202) rfl (w.heap.size + 1) cs (by simp [Act.eval, Act.put]) (by simp [Act.eval, Act.put]) 34 zeroD kz7 (by rw [hs6.out]; kernel_rfl) (by rw [hs6.out]; rfl) h1c ?_) | fail)
     exact bodyPost_ret (put_results _ _ (w.heap.size + 1) cs rfl kr hs6.out) rfl hE.out
    exact AllReadyH.nil
   exact AllReadyH.nil
  exact AllReadyH.nil
 exact AllReadyH.nil
end Go.Proofs.YtccakklnbhcbdaaGreatDoor
