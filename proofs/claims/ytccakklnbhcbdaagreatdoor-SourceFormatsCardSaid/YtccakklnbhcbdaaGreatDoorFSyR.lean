import Derived.Test.YtccakklnbhcbdaaGreatDoorFSyF
set_option linter.unusedVariables false
set_option linter.unusedSimpArgs false
namespace Go.Proofs.YtccakklnbhcbdaaGreatDoor
open Go.ChangeShapes Go.WideShapes Go.ChangeAt Go.RowKit
structure PutW (F : Nat) (w : World) (K : Nat) (d : Det) (p : PV) (W : World) : Prop where
 fl : F ≤ w.heap.size
 kl : K < w.heap.size
 kx : At W w.heap.size 34 (detC d p)
 kz : At W (w.heap.size + 1) 34 zeroD
 vals : RdV W d p
 far : ∀ b, some b ∈ p.fp → F ≤ b ∧ b ≠ w.heap.size ∧ b ≠ w.heap.size + 1 ∧ b ≠ K
 bel : Below F w W
 arg : W.heap[K]? = w.heap[K]?
def PutE (F : Nat) (w : World) (d' : Det) (e : Ending) (w' : World) : Prop := ∃ p', e = .returned (.agg (detC d' p')) ∧ RdV w' d' p' ∧ (∀ b, some b ∈ p'.fp → F ≤ b) ∧ Below F w w'
section
variable {F : Nat} {w W W' w5 : World} {K : Nat} {d d' : Det} {p p' : PV}
theorem PutW.start (hF : F ≤ w.heap.size) (hK : K < w.heap.size) (hV : RdV w d p) (hy : ∀ b, some b ∈ p.fp → F ≤ b) (hk : some K ∉ p.fp) : PutW F w K d p ((w.alloc (.cells (detC d p) 34)).alloc (.cells zeroD 34)) := by
 have hb : Below w.heap.size w ((w.alloc (.cells (detC d p) 34)).alloc (.cells zeroD 34)) := below_al (below_al (Below.refl _ _) _) _
 exact ⟨hF, hK, (At.new' rfl).al _, At.new' (by simp), hV.keep fun b h => hb.block b (hV.lt h), fun b h => ⟨hy b h, by have := hV.lt h; omega, by have := hV.lt h; omega, fun e => hk (e ▸ h)⟩, hb.mono hF, hb.block K hK⟩
theorem PutW.up (h : PutW F w K d p W) (hb : Below W.heap.size W W') : PutW F w K d p W' :=
 ⟨h.fl, h.kl, h.kx.bel hb, h.kz.bel hb, h.vals.keep fun b k => hb.block b (h.vals.lt k), h.far, h.bel.trans (hb.mono (by have := h.kx.lt; have := h.fl; omega)), (hb.block K (by have := h.kx.lt; have := h.kl; omega)).trans h.arg⟩
theorem PutW.store (h : PutW F w K d p W) {row : Option Nat} (hg : W.grownBy w5 row) (hr : ∀ b, row = some b → F ≤ b ∧ b ≠ w.heap.size ∧ b ≠ w.heap.size + 1 ∧ b ≠ K) {off : Nat} {u : Value} (h5 : RdV w5 d' p') (hy : ∀ b, some b ∈ p'.fp → F ≤ b ∧ b ≠ w.heap.size ∧ b ≠ w.heap.size + 1 ∧ b ≠ K) (hc : (detC d p).setIfInBounds off u = detC d' p') :
  At w5 w.heap.size 34 (detC d p) ∧ w5.heap[K]? = w.heap[K]? ∧ PutW F w K d' p' (w5.setCell ⟨w.heap.size, off, none⟩ u) := by
 have hxl := h.kx.lt
 have hzl := h.kz.lt
 have hfl := h.fl
 have hkl := h.kl
 have a5 : At w5 w.heap.size 34 (detC d p) := (hg.block _ hxl fun e => (hr _ e.symm).2.1 rfl).trans h.kx
 have k5 : w5.heap[K]? = w.heap[K]? := (hg.block K (by omega) fun e => (hr _ e.symm).2.2.2 rfl).trans h.arg
 have b5 : Below F W w5 := ⟨hg.os, hg.tape, hg.output, hg.size, fun k hk => hg.block k (by omega) fun e => by have := (hr k e.symm).1; omega⟩
 refine ⟨a5, k5, h.fl, h.kl, hc ▸ a5.put off u, ?_, h5.keep fun b hb => Below.heap_setCell w5 ⟨w.heap.size, off, none⟩ u b (hy b hb).2.1, hy, (h.bel.trans b5).setCell hfl u, ?_⟩
 ·exact (Below.heap_setCell w5 ⟨w.heap.size, off, none⟩ u _ (by dsimp only; omega)).trans ((hg.block _ hzl fun e => (hr _ e.symm).2.2.1 rfl).trans h.kz)
 ·exact (Below.heap_setCell w5 ⟨w.heap.size, off, none⟩ u _ (by dsimp only; omega)).trans k5
theorem fp_far {Pd : Nat → Prop} {k m : Nat} {o : Option Nat} (hk : k < p.fp.length) (hy : ∀ b, some b ∈ p.fp → Pd b) (ho : o = p.fp[k] ∨ o = some m) (hm : Pd m) : ∀ b, some b ∈ p.fp.set k o → Pd b := fun b hb => by
 rcases List.mem_or_eq_of_mem_set hb with h | h
 ·exact hy b h
 ·rcases ho with e | e
  ·exact hy b (by rw [h, e]; exact List.getElem_mem hk)
  ·rw [e] at h
   injection h with h
   exact h ▸ hm
theorem PutW.new (h : PutW F w K d p W) {m : Nat} (hm : W.heap.size ≤ m) : F ≤ m ∧ m ≠ w.heap.size ∧ m ≠ w.heap.size + 1 ∧ m ≠ K := by
 have := h.kz.lt
 have := h.fl
 have := h.kl
 exact ⟨by omega, by omega, by omega, by omega⟩
theorem PutW.pushB (h : PutW F w K d p W) (hg : W.grownBy w5 p.vb.ownBlock) {v' : Value} {n : List Int} (ho : w5.ownsRow 0 60 6 v' (d.boxes.length + 1) (d.boxes.flatMap (encK 6) ++ (encK 6) n)) {m : Nat} (hm : W.heap.size ≤ m) (hl : v'.ownBlock = p.vb.ownBlock ∨ v'.ownBlock = some m) :
  At w5 w.heap.size 34 (detC d p) ∧ w5.heap[K]? = w.heap[K]? ∧ PutW F w K { d with boxes := d.boxes ++ [n] } { p with vb := v' } (w5.setCell ⟨w.heap.size, 1, none⟩ v') := by
 have h6 := fp_six (p := p)
 exact h.store hg (fun b e => h.far b (by simp [PV.fp, e])) (h.vals.pushB hg ho hm hl) (fp_far (p := p) (k := 0) (by omega) h.far hl (h.new hm)) (by simp [detC, encK, List.range, List.range.loop])
theorem PutW.pushH (h : PutW F w K d p W) (hg : W.grownBy w5 p.vh.ownBlock) {v' : Value} {n : List Int} (ho : w5.ownsRow 0 60 6 v' (d.holes.length + 1) (d.holes.flatMap (encK 6) ++ (encK 6) n)) {m : Nat} (hm : W.heap.size ≤ m) (hl : v'.ownBlock = p.vh.ownBlock ∨ v'.ownBlock = some m) :
  At w5 w.heap.size 34 (detC d p) ∧ w5.heap[K]? = w.heap[K]? ∧ PutW F w K { d with holes := d.holes ++ [n] } { p with vh := v' } (w5.setCell ⟨w.heap.size, 2, none⟩ v') := by
 have h6 := fp_six (p := p)
 exact h.store hg (fun b e => h.far b (by simp [PV.fp, e])) (h.vals.pushH hg ho hm hl) (fp_far (p := p) (k := 1) (by omega) h.far hl (h.new hm)) (by simp [detC, encK, List.range, List.range.loop])
theorem PutW.pushN (h : PutW F w K d p W) (hg : W.grownBy w5 p.vn.ownBlock) {v' : Value} {n : List UInt8 × List Int} (ho : w5.ownsRow 0 81 10 v' (d.runs.length + 1) (d.runs.flatMap encU ++ encU n)) {m : Nat} (hm : W.heap.size ≤ m) (hl : v'.ownBlock = p.vn.ownBlock ∨ v'.ownBlock = some m) :
  At w5 w.heap.size 34 (detC d p) ∧ w5.heap[K]? = w.heap[K]? ∧ PutW F w K { d with runs := d.runs ++ [n] } { p with vn := v' } (w5.setCell ⟨w.heap.size, 7, none⟩ v') := by
 have h6 := fp_six (p := p)
 exact h.store hg (fun b e => h.far b (by simp [PV.fp, e])) (h.vals.pushN hg ho hm hl) (fp_far (p := p) (k := 3) (by omega) h.far hl (h.new hm)) (by simp [detC, encK, List.range, List.range.loop])
theorem PutW.pushL (h : PutW F w K d p W) (hg : W.grownBy w5 p.vl.ownBlock) {v' : Value} {n : List Int} (ho : w5.ownsRow 0 84 2 v' (d.laps.length + 1) (d.laps.flatMap (encK 2) ++ (encK 2) n)) {m : Nat} (hm : W.heap.size ≤ m) (hl : v'.ownBlock = p.vl.ownBlock ∨ v'.ownBlock = some m) :
  At w5 w.heap.size 34 (detC d p) ∧ w5.heap[K]? = w.heap[K]? ∧ PutW F w K { d with laps := d.laps ++ [n] } { p with vl := v' } (w5.setCell ⟨w.heap.size, 8, none⟩ v') := by
 have h6 := fp_six (p := p)
 exact h.store hg (fun b e => h.far b (by simp [PV.fp, e])) (h.vals.pushL hg ho hm hl) (fp_far (p := p) (k := 4) (by omega) h.far hl (h.new hm)) (by simp [detC, encK, List.range, List.range.loop])
theorem PutW.pushR (h : PutW F w K d p W) (hg : W.grownBy w5 p.vr.ownBlock) {v' dv : Value} {n : List UInt8 × List Int} (ho : w5.ownsRow 0 56 5 v' (d.bars.length + 1) ((d.bars.zip p.db).flatMap encR ++ encR (n, dv))) {m : Nat} (hm : W.heap.size ≤ m) (hl : v'.ownBlock = p.vr.ownBlock ∨ v'.ownBlock = some m)
  (hd : Row w5 3 1 encZ dv (n.2.drop 3)) (hdj : ∀ b, dv.ownBlock = some b → (some b ∉ p.fp ∧ b ≠ m) ∧ (F ≤ b ∧ b ≠ w.heap.size ∧ b ≠ w.heap.size + 1 ∧ b ≠ K)) :
  At w5 w.heap.size 34 (detC d p) ∧ w5.heap[K]? = w.heap[K]? ∧ PutW F w K { d with bars := d.bars ++ [n] } { p with vr := v', db := p.db ++ [dv] } (w5.setCell ⟨w.heap.size, 6, none⟩ v') := by
 have h6 := fp_six (p := p)
 refine h.store hg (fun b e => h.far b (by simp [PV.fp, e])) (h.vals.pushR hg ho hm hl hd fun b e => (hdj b e).1) (fun b hb => ?_) (by simp [detC, encK, List.range, List.range.loop])
 have e : ({ p with vr := v', db := p.db ++ [dv] } : PV).fp.Perm (dv.ownBlock :: p.fp.set 2 v'.ownBlock) := by
  simp only [PV.fp, List.map_append, List.map_cons, List.map_nil]
  rw [List.set_append, if_pos (by simp), List.set_append, if_pos (by simp)]
  rw [← List.append_assoc, List.append_assoc]
  exact List.perm_middle
 rcases List.mem_cons.1 (e.mem_iff.1 hb) with q | q
 ·exact (hdj b q.symm).2
 ·exact fp_far (p := p) (k := 2) (by omega) h.far hl (h.new hm) b q
theorem PutW.pushD (h : PutW F w K d p W) (hg : W.grownBy w5 p.vd.ownBlock) {v' : Value} {nm : List UInt8} {z : List Int} (ho : w5.ownsRow 0 63 8 v' (d.dems.length + 1) ((d.dems.zip p.ds).flatMap encD ++ encD ((nm, z, []), Value.slice none 0 0))) {m : Nat} (hm : W.heap.size ≤ m) (hl : v'.ownBlock = p.vd.ownBlock ∨ v'.ownBlock = some m) :
  At w5 w.heap.size 34 (detC d p) ∧ w5.heap[K]? = w.heap[K]? ∧ PutW F w K { d with dems := d.dems ++ [(nm, z, [])] } { p with vd := v', ds := p.ds ++ [Value.slice none 0 0] } (w5.setCell ⟨w.heap.size, 9, none⟩ v') := by
 have h6 := fp_six (p := p)
 refine h.store hg (fun b e => h.far b (by simp [PV.fp, e])) (h.vals.pushD hg ho hm hl) (fun b hb => ?_) (by simp [detC, encK, List.range, List.range.loop])
 have e : ({ p with vd := v', ds := p.ds ++ [Value.slice none 0 0] } : PV).fp = p.fp.set 5 v'.ownBlock ++ [none] := by
  simp only [PV.fp, List.map_append, List.map_cons, List.map_nil]
  rw [List.set_append, if_pos (by simp), List.set_append, if_pos (by simp)]
  simp [Value.ownBlock]
 rw [e] at hb
 rcases List.mem_append.1 hb with q | q
 ·exact fp_far (p := p) (k := 5) (by omega) h.far hl (h.new hm) b q
 ·simp at q
theorem PutW.grown (h : PutW F w K d p W) {row : Option Nat} (hg : W.grownBy w5 row) (hr : ∀ b, row = some b → (F ≤ b ∧ b ≠ w.heap.size ∧ b ≠ w.heap.size + 1 ∧ b ≠ K) ∧ some b ∉ p.fp) : PutW F w K d p w5 :=
 ⟨h.fl, h.kl, (hg.block _ h.kx.lt fun e => (hr _ e.symm).1.2.1 rfl).trans h.kx, (hg.block _ h.kz.lt fun e => (hr _ e.symm).1.2.2.1 rfl).trans h.kz, h.vals.keep fun b hb => hg.block b (h.vals.lt hb) (fun e => (hr _ e.symm).2 hb), h.far,
  h.bel.trans ⟨hg.os, hg.tape, hg.output, hg.size, fun k hk => hg.block k (by have := h.kx.lt; have := h.fl; omega) fun e => by have := (hr k e.symm).1.1; omega⟩, (hg.block K (by have := h.kx.lt; have := h.kl; omega) fun e => (hr _ e.symm).1.2.2.2 rfl).trans h.arg⟩
theorem PutW.fin (h : PutW F w K d p W) : At (W.setRow (w.heap.size + 1) (detC d p)) (w.heap.size + 1) 34 (detC d p) ∧ PutE F w d (.returned (.agg (detC d p))) (W.setRow (w.heap.size + 1) (detC d p)) :=
 ⟨h.kz.rowAt, p, rfl, h.vals.keep fun b hb => setRow_other W _ b _ (h.far b hb).2.2.1, fun b hb => (h.far b hb).1, below_row h.bel (by have := h.fl; omega) _⟩
end
theorem IsI.same {l : List Int} {K off n cp : Nat} {w W : World} (h : IsI l (.slice (some ⟨K, off, none⟩) n cp) w) (hK : W.heap[K]? = w.heap[K]?) (hl : K < W.heap.size) : IsI l (.slice (some ⟨K, off, none⟩) n cp) W := by
 obtain ⟨a, c, e, h2, h3, h4⟩ := h
 injection e with e1 e2 e3
 subst e1 e3
 refine ⟨_, _, by rw [e2], h2, h3, fun k hk => ?_⟩
 obtain ⟨b, o, e, hb, hc⟩ := h4 k hk
 injection e with e
 injection e with e1 e2
 subst e1 e2
 exact ⟨_, _, rfl, hl, fun j u hu => (World.cell?_of_block hK).trans (hc j u hu)⟩
theorem encZ_flat : ∀ l : List Int, l.flatMap encZ = l.map (Value.int .i64 ·)
 | [] => rfl
 | a :: l => by rw [List.flatMap_cons, encZ_flat l]; rfl
theorem own_none {w : World} {g base : Nat} (h : At w g 3 #[]) (hb : base ≤ g) : w.ownsRow base 3 1 (.slice (some ⟨g, 0, none⟩) 0 0) 0 [] := ⟨rfl, .inr ⟨g, 0, #[], rfl, hb, h, Nat.le_refl _, by unfold maxLen; decide, rfl, rfl⟩⟩
theorem own_row {w : World} {base m : Nat} {v : Value} {ds : List Int} (h : w.ownsRow base 3 1 v m (ds.map (Value.int .i64 ·))) (hm : ds.length = m) : Row w 3 1 encZ v ds := by
 unfold Row
 rw [encZ_flat, hm]
 obtain ⟨h1, h2 | ⟨g, cap, cur, e1, e2, e3⟩⟩ := h
 ·exact ⟨h1, .inl h2⟩
 ·exact ⟨h1, .inr ⟨g, cap, cur, e1, Nat.zero_le _, e3⟩⟩
theorem At.some {w : World} {g : Nat} {t : TypeId} {cs : Array Value} (h : At w g t cs) {j : Nat} (hj : j < cs.size) : ∃ u, w.cell? ⟨g, j, none⟩ = some u := ⟨cs[j], (h.c j).trans (Array.getElem?_eq_getElem hj)⟩
structure PutV (F : Nat) (w : World) (K : Nat) (cs : Array Value) (d : Det) (p : PV) (W : World) : Prop where
 fl : F ≤ w.heap.size
 kl : K < w.heap.size
 kx : At W w.heap.size 34 cs
 kz : At W (w.heap.size + 1) 34 zeroD
 vals : RdV W d p
 far : ∀ b, some b ∈ p.fp → F ≤ b ∧ b ≠ w.heap.size ∧ b ≠ w.heap.size + 1 ∧ b ≠ K
 bel : Below F w W
 arg : W.heap[K]? = w.heap[K]?
theorem PutV.of {F : Nat} {w W : World} {K : Nat} {d : Det} {p : PV} (h : PutW F w K d p W) : PutV F w K (detC d p) d p W := ⟨h.fl, h.kl, h.kx, h.kz, h.vals, h.far, h.bel, h.arg⟩
theorem PutV.put {F : Nat} {w W : World} {K : Nat} {cs : Array Value} {d : Det} {p : PV} (h : PutV F w K cs d p W) (off : Nat) (u : Value) : PutV F w K (cs.setIfInBounds off u) d p (W.setCell ⟨w.heap.size, off, none⟩ u) :=
 ⟨h.fl, h.kl, h.kx.put off u, (Below.heap_setCell W ⟨w.heap.size, off, none⟩ u _ (by dsimp only; omega)).trans h.kz, h.vals.keep fun b hb => Below.heap_setCell W ⟨w.heap.size, off, none⟩ u b (h.far b hb).2.1, h.far, h.bel.setCell h.fl u, (Below.heap_setCell W ⟨w.heap.size, off, none⟩ u _ (by have := h.kl; dsimp only; omega)).trans h.arg⟩
theorem PutV.to {F : Nat} {w W : World} {K : Nat} {cs : Array Value} {d d' : Det} {p : PV} (h : PutV F w K cs d p W) (hc : cs = detC d' p) (hv : ∀ _ : RdV W d p, RdV W d' p) : PutW F w K d' p W := ⟨h.fl, h.kl, hc ▸ h.kx, h.kz, hv h.vals, h.far, h.bel, h.arg⟩
theorem rule_cells (d : Det) (p : PV) (a0 a1 a2 a3 a4 a5 a6 a7 a8 : Int) : (((((((((detC d p).setIfInBounds 10 (.int .i64 a0)).setIfInBounds 11 (.int .i64 a1)).setIfInBounds 12 (.int .i64 a2)).setIfInBounds 13 (.int .i64 a3)).setIfInBounds 14 (.int .i64 a4)).setIfInBounds 15 (.int .i64 a5)).setIfInBounds 16 (.int .i64 a6)).setIfInBounds 17 (.int .i64 a7)).setIfInBounds 18 (.int .i64 a8) = detC { d with rule := [a0, a1, a2, a3, a4, a5, a6, a7, a8] } p := by
 unfold detC
 simp only [List.setIfInBounds_toArray]
 rfl
theorem put_results (tmps : Array Value) (w : World) (B : Nat) (cx : Array Value) (h8 : tmps.getD 8 undef = .pointer (some ⟨B, 0, none⟩)) (hX : At w B 34 cx) (sx : cx.size = 19) : (results Tryz.f64 tmps).run Tryz.prog w = .ok (.agg cx) w := by
 have e1 := run_loadVar_row (P := Tryz.prog) w B 34 34 cx (0, 0) _ hX Tryz.underlying34 rfl (by rw [sx]; kernel_rfl)
 have h8' : tmps[8]?.getD undef = .pointer (some ⟨B, 0, none⟩) := by simpa using h8
 simp [results, Tryz.results64, h8', asAddr, e1]
end Go.Proofs.YtccakklnbhcbdaaGreatDoor
