import Derived.Test.YtccakklnbhcbdaaGreatDoorFQe
import Derived.Test.YtccakklnbhcbdaaGreatDoorFQf
import Derived.Deep.RegionLaw
set_option linter.unusedVariables false
namespace Go.Proofs.YtccakklnbhcbdaaGreatDoor
open Go.ChangeShapes Go.WideShapes Go.ChangeAt Go.RowKit
theorem idle {P : Program} {a : Act} {w : World} {G : Prop} (h : G) (_ : wpAny P .any #[] (fun _ _ _ => True) 0 #[] a w) : G := h
theorem rdC_get (s : Rd) (p : PV) : (rdC s p)[0]? = some p.vt ∧ (rdC s p)[1]? = some (.int .i64 (s.i : Int)) ∧ (rdC s p)[2]? = some (.string ⟨s.d.name.toArray⟩) ∧ (rdC s p)[3]? = some p.vb ∧ (rdC s p)[4]? = some p.vh
  ∧ (rdC s p)[8]? = some p.vr ∧ (rdC s p)[9]? = some p.vn ∧ (rdC s p)[10]? = some p.vl ∧ (rdC s p)[11]? = some p.vd ∧ (rdC s p)[21]? = some (.bool s.ruled) ∧ (rdC s p).size = 22 := by
 simp [rdC, encK, List.range, List.range.loop]
theorem sep_set {l : List (Option Nat)} (h : l.Pairwise Dj) {k n m : Nat} (hk : k < l.length) (hlt : ∀ b, some b ∈ l → b < n) {o : Option Nat} (ho : o = l[k] ∨ o = some m) (hm : n ≤ m) : (l.set k o).Pairwise Dj := by
 rw [List.pairwise_iff_getElem] at h ⊢
 intro i j hi hj hij
 rw [List.length_set] at hi hj
 rw [List.getElem_set, List.getElem_set]
 have key : ∀ (q : Nat) (hq : q < l.length), Dj l[k] l[q] → Dj o l[q] := fun q hq hd => by
  rcases ho with rfl | rfl
  ·exact hd
  ·intro x h1 h2
   injection h1 with h1
   subst h1
   have := hlt m (by rw [← h2]; exact List.getElem_mem hq)
   omega
 by_cases e1 : k = i
 ·subst e1
  rw [if_pos rfl, if_neg (by omega)]
  exact key j hj (h k j hi hj hij)
 ·rw [if_neg e1]
  by_cases e2 : k = j
  ·subst e2
   rw [if_pos rfl]
   exact (key i hi (h i k hi hj hij).symm).symm
  ·rw [if_neg e2]
   exact h i j hi hj hij
theorem grown_below {w w5 : World} {row : Option Nat} {R : Nat} (hg : w.grownBy w5 row) (hR : R < w.heap.size) (hr : ∀ b, row = some b → R < b) : Below (R + 1) w w5 :=
 ⟨hg.os, hg.tape, hg.output, hg.size, fun k hk => hg.block k (by omega) fun e => by have := hr k e.symm; omega⟩
theorem flat_set {α : Type} {enc : α → List Value} {sz : Nat} (henc : ∀ x, (enc x).length = sz) : ∀ (l : List α) (k j : Nat) (hk : k < l.length) (_ : j < sz) (y : α) (u : Value), enc y = (enc l[k]).set j u → (l.set k y).flatMap enc = (l.flatMap enc).set (k * sz + j) u
 | x :: l, 0, j, _, hj, y, u, h => by
  have h : enc y = (enc x).set j u := h
  rw [List.set_cons_zero, List.flatMap_cons, List.flatMap_cons, h, List.set_append, if_pos (by rw [henc]; omega), Nat.zero_mul, Nat.zero_add]
 | x :: l, k + 1, j, hk, hj, y, u, h => by
  have hk' : k < l.length := by simpa using hk
  rw [List.set_cons_succ, List.flatMap_cons, List.flatMap_cons, List.set_append, if_neg (by rw [henc, Nat.succ_mul]; omega), henc, flat_set henc l k j hk' hj y u h, show (k + 1) * sz + j - sz = k * sz + j by rw [Nat.succ_mul]; omega]
theorem Row.setAt {α : Type} {w : World} {e : TypeId} {sz : Nat} {enc : α → List Value} {v : Value} {l : List α} (h : Row w e sz enc v l) (henc : ∀ x, (enc x).length = sz) {k j : Nat} (hk : k < l.length) (hj : j < sz) {y : α} {u : Value} (hy : enc y = (enc l[k]).set j u) {G : Nat} (hG : v.ownBlock = some G) : Row (w.setCell ⟨G, k * sz + j, none⟩ u) e sz enc v (l.set k y) := by
 obtain ⟨hl, ⟨h1, h2⟩ | ⟨g, cap, cur, h1, h2, h3, h4, h5, h6, h7⟩⟩ := h
 ·omega
 ·obtain rfl : g = G := by rw [h1] at hG; injection hG
  unfold Row
  rw [List.length_set, flat_set henc l k j hk hj y u hy]
  refine ⟨by rw [List.length_set]; exact hl, .inr ⟨g, cap, _, h1, h2, heap_setCell_same w g (k * sz + j) cur e u h3, h4, h5, by rw [Array.size_setIfInBounds]; exact h6, ?_⟩⟩
  rw [Array.toList_setIfInBounds, List.take_set, h7]
theorem stepD_set : ∀ (l : List (List UInt8 × List Int × List (List Int))) (n : List Int) (k : Nat) (hk : k < l.length) (_ : k + 1 = l.length), stepD l n = l.set k (l[k].1, l[k].2.1, l[k].2.2 ++ [n])
 | [(m, z, l)], n, 0, _, _ => rfl
 | d :: e :: r, n, 0, _, h => by simp at h
 | d :: e :: r, n, k + 1, _, h => by
  have h2 : k + 1 = (e :: r).length := by simpa using h
  rw [stepD, stepD_set (e :: r) n k (by omega) h2]
  ·rfl
  ·simp
theorem zip_set {α β : Type} (l : List α) (m : List β) (k : Nat) (x : α) (y : β) : (l.set k x).zip (m.set k y) = (l.zip m).set k (x, y) := by
 induction l generalizing m k with
 | nil => simp
 | cons a l ih =>
  cases m with
  | nil => cases k <;> simp
  | cons b m =>
   cases k with
   | zero => simp
   | succ k => simp [ih]
theorem Dj.symm' : ∀ {a b : Option Nat}, Dj a b → Dj b a := fun h => h.symm
section
variable {d : Det} {w w5 : World} {R : Nat} {ts : List Tk} {s : Rd} {p : PV}
theorem fp_db {k : Nat} (h : k < p.db.length) : ∃ hj : 6 + k < p.fp.length, p.fp[6 + k] = p.db[k].ownBlock := by
 have hj : 6 + k < p.fp.length := by simp [PV.fp]; omega
 refine ⟨hj, ?_⟩
 have : p.fp[6 + k]? = some p.db[k].ownBlock := by
  unfold PV.fp
  rw [List.getElem?_append_left (by simp; omega), List.getElem?_append_right (by simp)]
  simp [h]
 rw [List.getElem?_eq_getElem hj] at this
 exact Option.some.inj this
theorem fp_ds {k : Nat} (h : k < p.ds.length) : ∃ hj : 6 + p.db.length + k < p.fp.length, p.fp[6 + p.db.length + k] = p.ds[k].ownBlock := by
 have hj : 6 + p.db.length + k < p.fp.length := by simp [PV.fp]; omega
 refine ⟨hj, ?_⟩
 have : p.fp[6 + p.db.length + k]? = some p.ds[k].ownBlock := by
  unfold PV.fp
  rw [List.getElem?_append_right (by simp; omega), List.getElem?_map]
  rw [show 6 + p.db.length + k - ([p.vb.ownBlock, p.vh.ownBlock, p.vr.ownBlock, p.vn.ownBlock, p.vl.ownBlock, p.vd.ownBlock] ++ p.db.map Value.ownBlock).length = k by simp; omega, List.getElem?_eq_getElem h]
  rfl
 rw [List.getElem?_eq_getElem hj] at this
 exact Option.some.inj this
theorem fp_six : 6 ≤ p.fp.length := by simp [PV.fp]
theorem fp_young {k m : Nat} {o : Option Nat} (hk : k < p.fp.length) (hy : ∀ b, some b ∈ p.fp → R < b) (ho : o = p.fp[k] ∨ o = some m) (hm : R < m) : ∀ b, some b ∈ p.fp.set k o → R < b := fun b hb => by
 rcases List.mem_or_eq_of_mem_set hb with h | h
 ·exact hy b h
 ·rcases ho with e | e
  ·exact hy b (by rw [h, e]; exact List.getElem_mem hk)
  ·rw [e] at h
   injection h with h
   omega
theorem RdV.oth {d : Det} (h : RdV w d p) {k : Nat} (hk : k < p.fp.length) (hg : w.grownBy w5 p.fp[k]) {j : Nat} (hj : j < p.fp.length) (hjk : j ≠ k) :
  ∀ b, p.fp[j] = some b → w5.heap[b]? = w.heap[b]? := fun b e => by
 have hm : some b ∈ p.fp := e ▸ List.getElem_mem hj
 refine hg.block b (h.lt hm) fun e2 => ?_
 have hs := List.pairwise_iff_getElem.1 h.sep
 rcases Nat.lt_or_ge j k with q | q
 ·exact hs j k hj hk q b e e2.symm
 ·exact hs k j hk hj (by omega) b e2.symm e
theorem RdV.db (h : RdV w d p) {k : Nat} (hk : k < p.fp.length) (hk6 : k < 6) (hg : w.grownBy w5 p.fp[k]) : ∀ (i : Nat) (h1 : i < d.bars.length) (h2 : i < p.db.length), Row w5 3 1 encZ p.db[i] (d.bars[i].2.drop 3) := fun i h1 h2 => (h.dims i h1 h2).keep fun b e => by
 obtain ⟨hj, e1⟩ := fp_db (p := p) h2
 exact h.oth hk hg hj (by omega) b (e1.trans e)
theorem RdV.dt (h : RdV w d p) {k : Nat} (hk : k < p.fp.length) (hk6 : k < 6) (hg : w.grownBy w5 p.fp[k]) : ∀ (i : Nat) (h1 : i < d.dems.length) (h2 : i < p.ds.length), Row w5 86 2 (encK 2) p.ds[i] d.dems[i].2.2 := fun i h1 h2 => (h.steps i h1 h2).keep fun b e => by
 obtain ⟨hj, e1⟩ := fp_ds (p := p) h2
 exact h.oth hk hg hj (by omega) b (e1.trans e)
theorem RdV.pushB (h : RdV w d p) (hg : w.grownBy w5 p.vb.ownBlock) {v' : Value} {n : List Int} (ho : w5.ownsRow 0 60 6 v' (d.boxes.length + 1) (d.boxes.flatMap (encK 6) ++ (encK 6) n)) {m : Nat} (hm : w.heap.size ≤ m) (hl : v'.ownBlock = p.vb.ownBlock ∨ v'.ownBlock = some m) :
  RdV w5 { d with boxes := d.boxes ++ [n] } { p with vb := v' } := by
 have h6 := fp_six (p := p)
 have hk : 0 < p.fp.length := by omega
 exact {
  boxes := by
   unfold Row
   rw [List.length_append, List.flatMap_append]
   simpa using ho
  holes := h.holes.keep (h.oth (k := 0) hk hg (j := 1) (by omega) (by omega))
  bars := h.bars.keep (h.oth (k := 0) hk hg (j := 2) (by omega) (by omega))
  runs := h.runs.keep (h.oth (k := 0) hk hg (j := 3) (by omega) (by omega))
  laps := h.laps.keep (h.oth (k := 0) hk hg (j := 4) (by omega) (by omega))
  dems := h.dems.keep (h.oth (k := 0) hk hg (j := 5) (by omega) (by omega))
  nb := h.nb
  ns := h.ns
  dims := h.db (k := 0) hk (by omega) hg
  steps := h.dt (k := 0) hk (by omega) hg
  sep := sep_set h.sep hk (fun b e => h.lt e) hl hm }
theorem RdV.pushH (h : RdV w d p) (hg : w.grownBy w5 p.vh.ownBlock) {v' : Value} {n : List Int} (ho : w5.ownsRow 0 60 6 v' (d.holes.length + 1) (d.holes.flatMap (encK 6) ++ (encK 6) n)) {m : Nat} (hm : w.heap.size ≤ m) (hl : v'.ownBlock = p.vh.ownBlock ∨ v'.ownBlock = some m) :
  RdV w5 { d with holes := d.holes ++ [n] } { p with vh := v' } := by
 have h6 := fp_six (p := p)
 have hk : 1 < p.fp.length := by omega
 exact {
  boxes := h.boxes.keep (h.oth (k := 1) hk hg (j := 0) (by omega) (by omega))
  holes := by
   unfold Row
   rw [List.length_append, List.flatMap_append]
   simpa using ho
  bars := h.bars.keep (h.oth (k := 1) hk hg (j := 2) (by omega) (by omega))
  runs := h.runs.keep (h.oth (k := 1) hk hg (j := 3) (by omega) (by omega))
  laps := h.laps.keep (h.oth (k := 1) hk hg (j := 4) (by omega) (by omega))
  dems := h.dems.keep (h.oth (k := 1) hk hg (j := 5) (by omega) (by omega))
  nb := h.nb
  ns := h.ns
  dims := h.db (k := 1) hk (by omega) hg
  steps := h.dt (k := 1) hk (by omega) hg
  sep := sep_set h.sep hk (fun b e => h.lt e) hl hm }
theorem RdV.pushN (h : RdV w d p) (hg : w.grownBy w5 p.vn.ownBlock) {v' : Value} {n : List UInt8 × List Int} (ho : w5.ownsRow 0 81 10 v' (d.runs.length + 1) (d.runs.flatMap encU ++ encU n)) {m : Nat} (hm : w.heap.size ≤ m) (hl : v'.ownBlock = p.vn.ownBlock ∨ v'.ownBlock = some m) :
  RdV w5 { d with runs := d.runs ++ [n] } { p with vn := v' } := by
 have h6 := fp_six (p := p)
 have hk : 3 < p.fp.length := by omega
 exact {
  boxes := h.boxes.keep (h.oth (k := 3) hk hg (j := 0) (by omega) (by omega))
  holes := h.holes.keep (h.oth (k := 3) hk hg (j := 1) (by omega) (by omega))
  bars := h.bars.keep (h.oth (k := 3) hk hg (j := 2) (by omega) (by omega))
  runs := by
   unfold Row
   rw [List.length_append, List.flatMap_append]
   simpa using ho
  laps := h.laps.keep (h.oth (k := 3) hk hg (j := 4) (by omega) (by omega))
  dems := h.dems.keep (h.oth (k := 3) hk hg (j := 5) (by omega) (by omega))
  nb := h.nb
  ns := h.ns
  dims := h.db (k := 3) hk (by omega) hg
  steps := h.dt (k := 3) hk (by omega) hg
  sep := sep_set h.sep hk (fun b e => h.lt e) hl hm }
theorem RdV.pushL (h : RdV w d p) (hg : w.grownBy w5 p.vl.ownBlock) {v' : Value} {n : List Int} (ho : w5.ownsRow 0 84 2 v' (d.laps.length + 1) (d.laps.flatMap (encK 2) ++ (encK 2) n)) {m : Nat} (hm : w.heap.size ≤ m) (hl : v'.ownBlock = p.vl.ownBlock ∨ v'.ownBlock = some m) :
  RdV w5 { d with laps := d.laps ++ [n] } { p with vl := v' } := by
 have h6 := fp_six (p := p)
 have hk : 4 < p.fp.length := by omega
 exact {
  boxes := h.boxes.keep (h.oth (k := 4) hk hg (j := 0) (by omega) (by omega))
  holes := h.holes.keep (h.oth (k := 4) hk hg (j := 1) (by omega) (by omega))
  bars := h.bars.keep (h.oth (k := 4) hk hg (j := 2) (by omega) (by omega))
  runs := h.runs.keep (h.oth (k := 4) hk hg (j := 3) (by omega) (by omega))
  laps := by
   unfold Row
   rw [List.length_append, List.flatMap_append]
   simpa using ho
  dems := h.dems.keep (h.oth (k := 4) hk hg (j := 5) (by omega) (by omega))
  nb := h.nb
  ns := h.ns
  dims := h.db (k := 4) hk (by omega) hg
  steps := h.dt (k := 4) hk (by omega) hg
  sep := sep_set h.sep hk (fun b e => h.lt e) hl hm }
theorem RdV.pushR (h : RdV w d p) (hg : w.grownBy w5 p.vr.ownBlock) {v' dv : Value} {n : List UInt8 × List Int} (ho : w5.ownsRow 0 56 5 v' (d.bars.length + 1) ((d.bars.zip p.db).flatMap encR ++ encR (n, dv))) {m : Nat} (hm : w.heap.size ≤ m) (hl : v'.ownBlock = p.vr.ownBlock ∨ v'.ownBlock = some m)
  (hd : Row w5 3 1 encZ dv (n.2.drop 3)) (hdj : ∀ b, dv.ownBlock = some b → some b ∉ p.fp ∧ b ≠ m) :
  RdV w5 { d with bars := d.bars ++ [n] } { p with vr := v', db := p.db ++ [dv] } := by
 have h6 := fp_six (p := p)
 have hk : 2 < p.fp.length := by omega
 have hz : (d.bars ++ [n]).zip (p.db ++ [dv]) = d.bars.zip p.db ++ [(n, dv)] := by rw [List.zip_append h.nb.symm]; rfl
 exact {
  boxes := h.boxes.keep (h.oth (k := 2) hk hg (j := 0) (by omega) (by omega))
  holes := h.holes.keep (h.oth (k := 2) hk hg (j := 1) (by omega) (by omega))
  bars := by
   have hlz : (d.bars.zip p.db).length = d.bars.length := by rw [List.length_zip, h.nb]; simp
   show Row w5 _ 5 encR v' ((d.bars ++ [n]).zip (p.db ++ [dv]))
   rw [hz]
   unfold Row
   rw [List.length_append, List.flatMap_append, hlz]
   simpa using ho
  runs := h.runs.keep (h.oth (k := 2) hk hg (j := 3) (by omega) (by omega))
  laps := h.laps.keep (h.oth (k := 2) hk hg (j := 4) (by omega) (by omega))
  dems := h.dems.keep (h.oth (k := 2) hk hg (j := 5) (by omega) (by omega))
  nb := by simp [h.nb]
  ns := h.ns
  dims := fun i h1 h2 => by
   dsimp only at h1 h2 ⊢
   rw [List.length_append] at h1 h2
   rcases Nat.lt_or_ge i d.bars.length with q | q
   ·rw [List.getElem_append_left q, List.getElem_append_left (by rw [h.nb]; exact q)]
    exact h.db (k := 2) hk (by omega) hg i q (by rw [h.nb]; exact q)
   ·obtain rfl : i = d.bars.length := by simp at h1; omega
    simp only [List.getElem_append_right (Nat.le_refl _), List.getElem_append_right (show p.db.length ≤ d.bars.length by rw [h.nb]; exact Nat.le_refl _), Nat.sub_self, h.nb, List.getElem_cons_zero]
    exact hd
  steps := h.dt (k := 2) hk (by omega) hg
  sep := by
   have e : ({ p with vr := v', db := p.db ++ [dv] } : PV).fp.Perm (dv.ownBlock :: p.fp.set 2 v'.ownBlock) := by
    simp only [PV.fp, List.map_append, List.map_cons, List.map_nil]
    rw [List.set_append, if_pos (by simp), List.set_append, if_pos (by simp)]
    rw [← List.append_assoc, List.append_assoc]
    exact List.perm_middle
   rw [e.pairwise_iff Dj.symm']
   refine List.pairwise_cons.2 ⟨fun x hx => ?_, sep_set h.sep hk (fun b e => h.lt e) hl hm⟩
   intro b h1 h2
   subst h2
   obtain ⟨g1, g2⟩ := hdj b h1
   rcases List.mem_or_eq_of_mem_set hx with q | q
   ·exact g1 q
   ·rcases hl with l | l
    ·exact g1 (by rw [q, l]; exact List.getElem_mem hk)
    ·rw [l] at q; injection q with q; exact g2 q }
theorem RdV.pushD (h : RdV w d p) (hg : w.grownBy w5 p.vd.ownBlock) {v' : Value} {nm : List UInt8} {z : List Int} (ho : w5.ownsRow 0 63 8 v' (d.dems.length + 1) ((d.dems.zip p.ds).flatMap encD ++ encD ((nm, z, []), Value.slice none 0 0))) {m : Nat} (hm : w.heap.size ≤ m) (hl : v'.ownBlock = p.vd.ownBlock ∨ v'.ownBlock = some m) :
  RdV w5 { d with dems := d.dems ++ [(nm, z, [])] } { p with vd := v', ds := p.ds ++ [Value.slice none 0 0] } := by
 have h6 := fp_six (p := p)
 have hk : 5 < p.fp.length := by omega
 have hz : (d.dems ++ [(nm, z, [])]).zip (p.ds ++ [Value.slice none 0 0]) = d.dems.zip p.ds ++ [((nm, z, []), Value.slice none 0 0)] := by rw [List.zip_append h.ns.symm]; rfl
 exact {
  boxes := h.boxes.keep (h.oth (k := 5) hk hg (j := 0) (by omega) (by omega))
  holes := h.holes.keep (h.oth (k := 5) hk hg (j := 1) (by omega) (by omega))
  bars := h.bars.keep (h.oth (k := 5) hk hg (j := 2) (by omega) (by omega))
  runs := h.runs.keep (h.oth (k := 5) hk hg (j := 3) (by omega) (by omega))
  laps := h.laps.keep (h.oth (k := 5) hk hg (j := 4) (by omega) (by omega))
  dems := by
   have hlz : (d.dems.zip p.ds).length = d.dems.length := by rw [List.length_zip, h.ns]; simp
   show Row w5 _ 8 encD v' ((d.dems ++ [(nm, z, [])]).zip (p.ds ++ [Value.slice none 0 0]))
   rw [hz]
   unfold Row
   rw [List.length_append, List.flatMap_append, hlz]
   simpa using ho
  nb := h.nb
  ns := by simp [h.ns]
  dims := h.db (k := 5) hk (by omega) hg
  steps := fun i h1 h2 => by
   dsimp only at h1 h2 ⊢
   rw [List.length_append] at h1 h2
   rcases Nat.lt_or_ge i d.dems.length with q | q
   ·rw [List.getElem_append_left q, List.getElem_append_left (by rw [h.ns]; exact q)]
    exact h.dt (k := 5) hk (by omega) hg i q (by rw [h.ns]; exact q)
   ·obtain rfl : i = d.dems.length := by simp at h1; omega
    simp only [List.getElem_append_right (Nat.le_refl _), List.getElem_append_right (show p.ds.length ≤ d.dems.length by rw [h.ns]; exact Nat.le_refl _), Nat.sub_self, h.ns, List.getElem_cons_zero]
    exact World.ownsRow_nil _ _ _ _
  sep := by
   have e : ({ p with vd := v', ds := p.ds ++ [Value.slice none 0 0] } : PV).fp = p.fp.set 5 v'.ownBlock ++ [none] := by
    simp only [PV.fp, List.map_append, List.map_cons, List.map_nil]
    rw [List.set_append, if_pos (by simp), List.set_append, if_pos (by simp)]
    simp [Value.ownBlock]
   rw [e]
   refine List.pairwise_append.2 ⟨sep_set h.sep hk (fun b e => h.lt e) hl hm, by simp, fun a _ b hb => ?_⟩
   simp only [List.mem_singleton] at hb
   subst hb
   intro x _ h2
   cases h2 }
theorem fp_setS {k : Nat} (v : Value) (h : k < p.ds.length) : ({ p with ds := p.ds.set k v } : PV).fp = p.fp.set (6 + p.db.length + k) v.ownBlock := by
 simp only [PV.fp, List.map_set]
 rw [List.set_append, if_neg (by simp; omega)]
 congr 2
 simp
 omega
theorem RdV.pushS (h : RdV w d p) {k : Nat} (hk : k + 1 = d.dems.length) (h1 : k < d.dems.length) (h2 : k < p.ds.length) (hg : w.grownBy w5 p.ds[k].ownBlock) {v' : Value} {n : List Int} (ho : w5.ownsRow 0 86 2 v' (d.dems[k].2.2.length + 1) (d.dems[k].2.2.flatMap (encK 2) ++ encK 2 n)) {m : Nat} (hm : w.heap.size ≤ m) (hl : v'.ownBlock = p.ds[k].ownBlock ∨ v'.ownBlock = some m) {G : Nat} (hG : p.vd.ownBlock = some G) :
  RdV (w5.setCell ⟨G, k * 8 + 7, none⟩ v') { d with dems := stepD d.dems n } { p with ds := p.ds.set k v' } := by
 have h6 := fp_six (p := p)
 obtain ⟨hj, e1⟩ := fp_ds (p := p) h2
 rw [← e1] at hg hl
 have hG5 : p.fp[5] = some G := hG
 have hne : ∀ (i : Nat) (hi : i < p.fp.length), i ≠ 5 → ∀ b, p.fp[i] = some b → b ≠ G := fun i hi h5 b e e2 => by
  subst e2
  have hs := List.pairwise_iff_getElem.1 h.sep
  rcases Nat.lt_or_ge i 5 with q | q
  ·exact hs i 5 hi (by omega) q b e hG5
  ·exact hs 5 i (by omega) hi (by omega) b hG5 e
 have hGw : G < w.heap.size := h.lt (by rw [← hG5]; exact List.getElem_mem _)
 have hvG : ∀ b, v'.ownBlock = some b → b ≠ G := fun b e e2 => by
  rcases hl with q | q
  ·exact hne _ hj (by omega) b (q.symm.trans e) e2
  ·rw [q] at e; injection e with e; omega
 have key : ∀ (i : Nat) (hi : i < p.fp.length), i ≠ 5 → i ≠ 6 + p.db.length + k → ∀ b, p.fp[i] = some b → (w5.setCell ⟨G, k * 8 + 7, none⟩ v').heap[b]? = w.heap[b]? := fun i hi h5 h6 b e => by
  rw [Below.heap_setCell w5 ⟨G, k * 8 + 7, none⟩ v' b (hne i hi h5 b e)]
  exact h.oth hj hg hi h6 b e
 have hlz : (d.dems.zip p.ds).length = d.dems.length := by rw [List.length_zip, h.ns]; simp
 have hst : stepD d.dems n = d.dems.set k (d.dems[k].1, d.dems[k].2.1, d.dems[k].2.2 ++ [n]) := stepD_set _ _ _ h1 hk
 exact {
  boxes := h.boxes.keep (key 0 (by omega) (by omega) (by omega))
  holes := h.holes.keep (key 1 (by omega) (by omega) (by omega))
  bars := h.bars.keep (key 2 (by omega) (by omega) (by omega))
  runs := h.runs.keep (key 3 (by omega) (by omega) (by omega))
  laps := h.laps.keep (key 4 (by omega) (by omega) (by omega))
  dems := by
   have h5 : Row w5 63 8 encD p.vd (d.dems.zip p.ds) := h.dems.keep (h.oth hj hg (j := 5) (by omega) (by omega))
   show Row _ _ 8 encD p.vd ((stepD d.dems n).zip (p.ds.set k v'))
   rw [hst, zip_set]
   refine h5.setAt encD_len (by rw [hlz]; exact h1) (by omega) ?_ hG
   rw [List.getElem_zip]
   simp [encD, encK, List.range, List.range.loop]
  nb := h.nb
  ns := by rw [List.length_set, h.ns, hst, List.length_set]
  dims := fun i g1 g2 => (h.dims i g1 g2).keep fun b e => by
   obtain ⟨gj, e1⟩ := fp_db (p := p) g2
   have g2 : i < p.db.length := g2
   exact key (6 + i) gj (by omega) (by omega) b (e1.trans e)
  steps := fun i g1 g2 => by
   dsimp only at g1 g2 ⊢
   rw [List.length_set] at g2
   have e3 : ∀ (q : i < (stepD d.dems n).length), (stepD d.dems n)[i] = (d.dems.set k (d.dems[k].1, d.dems[k].2.1, d.dems[k].2.2 ++ [n]))[i]'(by rw [← hst]; exact q) := fun q => by congr 1
   rw [e3 g1, List.getElem_set, List.getElem_set]
   by_cases q : k = i
   ·rw [if_pos q, if_pos q]
    have h5 : Row w5 86 2 (encK 2) v' (d.dems[k].2.2 ++ [n]) := by
     unfold Row
     rw [List.length_append, List.flatMap_append]
     simpa using ho
    exact h5.keep fun b e => Below.heap_setCell w5 ⟨G, k * 8 + 7, none⟩ v' b (hvG b e)
   ·rw [if_neg q, if_neg q]
    refine (h.steps i (by rw [← h.ns]; exact g2) g2).keep fun b e => ?_
    obtain ⟨gj, e4⟩ := fp_ds (p := p) g2
    exact key _ gj (by omega) (by omega) b (e4.trans e)
  sep := by
   rw [fp_setS v' h2]
   exact sep_set h.sep hj (fun b e => h.lt e) hl hm }
theorem RdW.store (h : RdW w R ts s p) {row : Option Nat} (hg : w.grownBy w5 row) (hr : ∀ b, row = some b → R < b) {off : Nat} (hof : 2 ≤ off) {u : Value} {d' : Det} {p' : PV} (h5 : RdV w5 d' p') (hy : ∀ b, some b ∈ p'.fp → R < b) (hc : (rdC s p).setIfInBounds off u = rdC { s with d := d' } p') :
  At w5 R 139 (rdC s p) ∧ RdW (w5.setCell ⟨R, off, none⟩ u) R ts { s with d := d' } p' ∧ Below R w (w5.setCell ⟨R, off, none⟩ u) := by
 have hRl := h.tok.own.lt
 have hb := grown_below hg hRl hr
 have hT5 := h.tok.below hb (Nat.lt_succ_self R)
 refine ⟨hT5.own, ⟨?_, h5.keep fun b hb => Below.heap_setCell w5 ⟨R, off, none⟩ u b (by have := hy b hb; dsimp only; omega), hy⟩, (hb.mono (Nat.le_succ R)).setCell (Nat.le_refl R) u⟩
 have hs := Wrt.set (j := off) hT5.own u
 have := hT5.wr hs (fun x hx => by simp only [List.mem_singleton] at hx; subst hx; exact Nat.le_refl _) (hT5.own.put off u) (by simp) (by rw [Array.getElem?_setIfInBounds_ne (by omega)]) s.i (by rw [Array.getElem?_setIfInBounds_ne (by omega)]; exact hT5.at_)
 rwa [hc] at this
theorem RdW.pushB (h : RdW w R ts s p) (hg : w.grownBy w5 p.vb.ownBlock) {v' : Value} {n : List Int} (ho : w5.ownsRow 0 60 6 v' (s.d.boxes.length + 1) (s.d.boxes.flatMap (encK 6) ++ (encK 6) n)) {m : Nat} (hm : w.heap.size ≤ m) (hl : v'.ownBlock = p.vb.ownBlock ∨ v'.ownBlock = some m) :
  At w5 R 139 (rdC s p) ∧ RdW (w5.setCell ⟨R, 3, none⟩ v') R ts { s with d := { s.d with boxes := s.d.boxes ++ [n] } } { p with vb := v' } ∧ Below R w (w5.setCell ⟨R, 3, none⟩ v') := by
 have h6 := fp_six (p := p)
 exact h.store hg (fun b e => h.young b (by simp [PV.fp, e])) (by omega) (h.vals.pushB hg ho hm hl) (fp_young (p := p) (k := 0) (by omega) h.young hl (by have := h.tok.own.lt; omega)) (by simp [rdC, encK, List.range, List.range.loop])
theorem RdW.pushH (h : RdW w R ts s p) (hg : w.grownBy w5 p.vh.ownBlock) {v' : Value} {n : List Int} (ho : w5.ownsRow 0 60 6 v' (s.d.holes.length + 1) (s.d.holes.flatMap (encK 6) ++ (encK 6) n)) {m : Nat} (hm : w.heap.size ≤ m) (hl : v'.ownBlock = p.vh.ownBlock ∨ v'.ownBlock = some m) :
  At w5 R 139 (rdC s p) ∧ RdW (w5.setCell ⟨R, 4, none⟩ v') R ts { s with d := { s.d with holes := s.d.holes ++ [n] } } { p with vh := v' } ∧ Below R w (w5.setCell ⟨R, 4, none⟩ v') := by
 have h6 := fp_six (p := p)
 exact h.store hg (fun b e => h.young b (by simp [PV.fp, e])) (by omega) (h.vals.pushH hg ho hm hl) (fp_young (p := p) (k := 1) (by omega) h.young hl (by have := h.tok.own.lt; omega)) (by simp [rdC, encK, List.range, List.range.loop])
theorem RdW.pushN (h : RdW w R ts s p) (hg : w.grownBy w5 p.vn.ownBlock) {v' : Value} {n : List UInt8 × List Int} (ho : w5.ownsRow 0 81 10 v' (s.d.runs.length + 1) (s.d.runs.flatMap encU ++ encU n)) {m : Nat} (hm : w.heap.size ≤ m) (hl : v'.ownBlock = p.vn.ownBlock ∨ v'.ownBlock = some m) :
  At w5 R 139 (rdC s p) ∧ RdW (w5.setCell ⟨R, 9, none⟩ v') R ts { s with d := { s.d with runs := s.d.runs ++ [n] } } { p with vn := v' } ∧ Below R w (w5.setCell ⟨R, 9, none⟩ v') := by
 have h6 := fp_six (p := p)
 exact h.store hg (fun b e => h.young b (by simp [PV.fp, e])) (by omega) (h.vals.pushN hg ho hm hl) (fp_young (p := p) (k := 3) (by omega) h.young hl (by have := h.tok.own.lt; omega)) (by simp [rdC, encK, List.range, List.range.loop])
theorem RdW.pushL (h : RdW w R ts s p) (hg : w.grownBy w5 p.vl.ownBlock) {v' : Value} {n : List Int} (ho : w5.ownsRow 0 84 2 v' (s.d.laps.length + 1) (s.d.laps.flatMap (encK 2) ++ (encK 2) n)) {m : Nat} (hm : w.heap.size ≤ m) (hl : v'.ownBlock = p.vl.ownBlock ∨ v'.ownBlock = some m) :
  At w5 R 139 (rdC s p) ∧ RdW (w5.setCell ⟨R, 10, none⟩ v') R ts { s with d := { s.d with laps := s.d.laps ++ [n] } } { p with vl := v' } ∧ Below R w (w5.setCell ⟨R, 10, none⟩ v') := by
 have h6 := fp_six (p := p)
 exact h.store hg (fun b e => h.young b (by simp [PV.fp, e])) (by omega) (h.vals.pushL hg ho hm hl) (fp_young (p := p) (k := 4) (by omega) h.young hl (by have := h.tok.own.lt; omega)) (by simp [rdC, encK, List.range, List.range.loop])
end
end Go.Proofs.YtccakklnbhcbdaaGreatDoor
set_option linter.unusedVariables false
namespace Go.Proofs.YtccakklnbhcbdaaGreatDoor
theorem next_two {l : List UInt8} (h : (nextL l).1 = 2) : l.head? ≠ some 45 := by
 intro e
 cases l with
 | nil => cases e
 | cons c r =>
  injection e with e
  subst e
  rw [next_minus] at h
  exact absurd h (by decide)
def EndT (n : Nat) (ts : List Tk) : Prop := ∃ r e, ts = r ++ [e] ∧ e.kind = 5 ∧ e.text = [] ∧ r.length ≤ n ∧ ∀ t ∈ r, t.kind ≠ 5 ∧ t.text.length ≤ n ∧ (t.kind = 2 → t.text.head? ≠ some 45)
theorem EndT.cons {n m : Nat} {ts : List Tk} {t : Tk} (h : EndT n ts) (hn : n + 1 ≤ m) (h1 : t.kind ≠ 5) (h2 : t.text.length ≤ m) (h3 : t.kind = 2 → t.text.head? ≠ some 45) : EndT m (t :: ts) := by
 obtain ⟨r, e, rfl, e1, e2, e3, e4⟩ := h
 refine ⟨t :: r, e, rfl, e1, e2, by simp; omega, fun u hu => ?_⟩
 rcases List.mem_cons.1 hu with rfl | hu
 ·exact ⟨h1, h2, h3⟩
 ·obtain ⟨a, b, c⟩ := e4 u hu
  exact ⟨a, by omega, c⟩
theorem EndT.up {n m : Nat} {ts : List Tk} (h : EndT n ts) (hn : n ≤ m) : EndT m ts := by
 obtain ⟨r, e, rfl, e1, e2, e3, e4⟩ := h
 exact ⟨r, e, rfl, e1, e2, by omega, fun u hu => ⟨(e4 u hu).1, by have := (e4 u hu).2.1; omega, (e4 u hu).2.2⟩⟩
theorem tokG_ends : ∀ (f : Nat) (l : List UInt8) (line col : Int) (ts : List Tk), tokG f l line col = some ts → EndT l.length ts
 | 0, l, line, col, ts, h => by
  rw [tokG] at h
  injection h with h
  exact ⟨[], _, h.symm, rfl, rfl, Nat.zero_le _, fun t ht => by cases ht⟩
 | f + 1, l, line, col, ts, h => by
  rw [tokG] at h
  split at h
  ·injection h with h
   exact ⟨[], _, h.symm, rfl, rfl, Nat.zero_le _, fun t ht => by cases ht⟩
  rename_i h0
  have hp := nextL_pos h0
  split at h
  ·cases h
  split at h
  ·obtain ⟨us, hu, rfl⟩ := Option.map_eq_some_iff.1 h
   have ih := tokG_ends f _ _ _ us hu
   rw [List.length_drop] at ih
   exact ih.cons (by omega) (by dsimp only; decide) (Nat.zero_le _) (fun q => absurd (show (4 : Int) = 2 from q) (by decide))
  split at h
  ·have ih := tokG_ends f _ _ _ ts h
   rw [List.length_drop] at ih
   exact ih.up (by omega)
  ·rename_i hneg h4 hz
   obtain ⟨us, hu, rfl⟩ := Option.map_eq_some_iff.1 h
   have ih := tokG_ends f _ _ _ us hu
   rw [List.length_drop] at ih
   refine ih.cons (by omega) ?_ (by dsimp only; rw [List.length_take]; omega) fun q e => ?_
   ·dsimp only
    rcases nextL_kind l with k | k | k | k | k | k <;> rw [k] <;> decide
   ·have h2 := next_two q
    dsimp only at e
    rw [List.head?_take] at e
    split at e
    ·cases e
    ·exact h2 e
theorem tk_app {r : List Tk} {e : Tk} {i : Nat} (hi : i < r.length) : tk (r ++ [e]) i ∈ r := by
 rw [tk_get (by simp; omega), List.getElem_append_left hi]
 exact List.getElem_mem hi
theorem tk_last {r : List Tk} {e : Tk} : tk (r ++ [e]) r.length = e := by
 rw [tk_get (by simp)]
 simp
theorem EndT.ends {n : Nat} {ts : List Tk} (h : EndT n ts) (hn : n ≤ 999999) : Ends ts := by
 obtain ⟨r, e, rfl, e1, e2, e3, e4⟩ := h
 have hcase : ∀ i, i < (r ++ [e]).length → i < r.length ∨ i = r.length := fun i hi => by simp at hi; omega
 refine ⟨by simp; omega, fun i hi hk => ?_, fun i hi => ?_, fun i hi hk => ?_⟩
 ·rcases hcase i hi with q | rfl
  ·simp; omega
  ·rw [tk_last] at hk; exact absurd e1 hk
 ·rcases hcase i hi with q | rfl
  ·have := (e4 _ (tk_app (e := e) q)).2.1
   omega
  ·rw [tk_last, e2]; exact Nat.zero_le _
 ·rcases hcase i hi with q | rfl
  ·exact (e4 _ (tk_app (e := e) q)).2.2 hk
  ·rw [tk_last, e1] at hk; exact absurd hk (by decide)
theorem tokS_ends {l : List UInt8} (h : (tokS l).2.2 = 0) : Ends (tokS l).1 ∧ 0 < (tokS l).1.length ∧ l.length ≤ 262144 ∧ tokG l.length l 1 1 = some (tokS l).1 := by
 unfold tokS at h ⊢
 by_cases hl : 262144 < l.length
 ·rw [if_pos hl] at h
  exact absurd h (by decide)
 ·rw [if_neg hl] at h ⊢
  rcases tokF_G l.length l 1 1 [] with ⟨ts, q1, q2⟩ | ⟨q1, p, q2⟩
  ·rw [q2] at h ⊢
   rw [List.nil_append]
   have he := tokG_ends _ _ _ _ _ q1
   refine ⟨he.ends (by omega), ?_, by omega, q1⟩
   obtain ⟨r, e, rfl, _⟩ := he
   simp
  ·rw [q2] at h
   exact absurd (show (7 : Int) = 0 from h) (by decide)
theorem num_up {ts : List Tk} {i : Nat} {n : Int} {j : Nat} (h : numT ts i = .ok (n, j)) : i < j := by
 unfold numT at h
 split at h
 ·injection h with h
  injection h with _ h
  subst h
  unfold digT
  split <;> omega
 ·cases h
theorem nums_up {ts : List Tk} : ∀ (k i : Nat) {l : List Int} {j : Nat}, numsT ts k i = .ok (l, j) → i ≤ j
 | 0, i, l, j, h => by
  rw [numsT] at h
  injection h with h
  injection h with _ h2
  omega
 | k + 1, i, l, j, h => by
  rw [numsT] at h
  split at h
  ·cases h
  ·rename_i h1
   split at h
   ·cases h
   ·rename_i h2
    injection h with h
    injection h with _ e
    have a := num_up h1
    have b := nums_up k _ h2
    omega
theorem dims_up {ts : List Tk} : ∀ (f i : Nat) {l : List Int} {j : Nat}, dimsT ts f i = .ok (l, j) → i + l.length ≤ j
 | 0, i, l, j, h => by
  rw [dimsT] at h
  injection h with h
  injection h with h1 h2
  subst h1 h2
  exact Nat.le_refl _
 | f + 1, i, l, j, h => by
  rw [dimsT] at h
  split at h
  ·injection h with h
   injection h with h1 h2
   subst h1 h2
   exact Nat.le_refl _
  split at h
  ·cases h
  ·rename_i h1
   split at h
   ·cases h
   ·rename_i h2
    injection h with h
    injection h with e1 e
    have a := num_up h1
    have b := dims_up f _ h2
    rw [← e1, ← e, List.length_cons]
    omega
theorem dims_lt {ts : List Tk} (hE : Ends ts) : ∀ (f i : Nat) {l : List Int} {j : Nat}, i < ts.length → dimsT ts f i = .ok (l, j) → j < ts.length
 | 0, i, l, j, hi, h => by
  rw [dimsT] at h
  injection h with h
  injection h with h1 h2
  omega
 | f + 1, i, l, j, hi, h => by
  rw [dimsT] at h
  split at h
  ·injection h with h
   injection h with h1 h2
   omega
  split at h
  ·cases h
  ·rename_i h1
   split at h
   ·cases h
   ·rename_i h2
    injection h with h
    injection h with e1 e
    rw [← e]
    exact dims_lt hE f _ (num_lt hE hi h1) h2
theorem name_lt {ts : List Tk} (hE : Ends ts) {i : Nat} (hi : i < ts.length) {l : List UInt8} {j : Nat} (h : nameT ts i = .ok (l, j)) : j = i + 1 ∧ j < ts.length := by
 unfold nameT at h
 split at h
 ·rename_i hk
  injection h with h
  injection h with _ h
  subst h
  exact ⟨rfl, hE.more i hi (by rw [hk]; decide)⟩
 ·cases h
theorem skip_lt {ts : List Tk} (hE : Ends ts) : ∀ (f i : Nat), i < ts.length → i ≤ skipT ts f i ∧ skipT ts f i < ts.length
 | 0, i, hi => ⟨Nat.le_refl _, hi⟩
 | f + 1, i, hi => by
  rw [skipT]
  split
  ·rename_i hk
   have := skip_lt hE f (i + 1) (hE.more i hi (by rw [hk]; decide))
   omega
  ·exact ⟨Nat.le_refl _, hi⟩
theorem end_lt {ts : List Tk} (hE : Ends ts) {i : Nat} (hi : i < ts.length) {j : Nat} (h : endT ts i = .ok j) : i ≤ j ∧ j < ts.length := by
 unfold endT at h
 split at h
 ·injection h with h
  rw [← h]
  exact skip_lt hE _ _ hi
 ·cases h
theorem line_lt {ts : List Tk} (hE : Ends ts) {i : Nat} (hi : i < ts.length) {w : List UInt8} {l : List Int} {j : Nat} (h : lineT ts w i = .ok (l, j)) : i ≤ j ∧ j < ts.length := by
 unfold lineT at h
 split at h
 ·cases h
 ·rename_i l1 j1 h1
  have a := nums_lt hE _ _ hi h1
  have b := nums_up _ _ h1
  split at h
  ·split at h
   ·cases h
   ·rename_i h2
    injection h with h
    injection h with _ h
    subst h
    have c := dims_lt hE _ _ a h2
    have d := dims_up _ _ h2
    omega
  ·injection h with h
   injection h with _ h
   subst h
   exact ⟨b, a⟩
def manyD (d : Det) : Nat := d.boxes.length + d.holes.length + d.bars.length + d.runs.length + d.laps.length + d.dems.length + (d.dems.map fun x => x.2.2.length).sum
theorem stepD_sum : ∀ (l : List (List UInt8 × List Int × List (List Int))) (n : List Int), (stepD l n).length = l.length ∧ ((stepD l n).map fun x => x.2.2.length).sum ≤ (l.map fun x => x.2.2.length).sum + 1
 | [], n => ⟨rfl, by simp [stepD]⟩
 | [(m, z, l)], n => ⟨rfl, by simp [stepD]⟩
 | d :: e :: r, n => by
  have := stepD_sum (e :: r) n
  rw [stepD]
  ·refine ⟨by simp [this.1], ?_⟩
   simp only [List.map_cons, List.sum_cons] at this ⊢
   omega
  ·simp
theorem putD_many (d : Det) (w nm : List UInt8) (n : List Int) : manyD (putD d w nm n) ≤ manyD d + 1 := by
 have := stepD_sum d.dems n
 unfold putD manyD
 split
 ·dsimp only; omega
 split
 ·simp; omega
 split
 ·simp; omega
 split
 ·dsimp only; omega
 split
 ·simp; omega
 split
 ·simp; omega
 split
 ·simp; omega
 split
 ·simp; omega
 ·dsimp only
  rw [this.1]
  omega
theorem body_up {ts : List Tk} (hE : Ends ts) {w : List UInt8} {s s' : Rd} (hi : s.i + 1 < ts.length) (h : bodyT ts w s = .ok s') (hm : manyD s.d ≤ s.i) : s.i < s'.i ∧ s'.i < ts.length ∧ manyD s'.d ≤ s'.i := by
 unfold bodyT at h
 split at h
 ·cases h
 ·rename_i nm i h1
  have hj : s.i + 1 ≤ i ∧ i < ts.length := by
   split at h1
   ·have := name_lt hE hi h1
    omega
   ·injection h1 with h1
    injection h1 with _ h1
    omega
  split at h
  ·cases h
  ·rename_i n j h2
   have a := line_lt hE hj.2 h2
   split at h
   ·cases h
   ·rename_i j' h3
    have b := end_lt hE a.2 h3
    injection h with h
    subst h
    have := putD_many s.d w nm n
    dsimp only
    omega
end Go.Proofs.YtccakklnbhcbdaaGreatDoor
set_option linter.unusedVariables false
namespace Go.Proofs.YtccakklnbhcbdaaGreatDoor
open Go.ChangeShapes Go.WideShapes Go.ChangeAt Go.RowKit
theorem infoBox : (Tryz.prog.info? 60).map (fun i => (i.zero, i.size, i.bytes)) = some (some (.agg #[.int .i64 0, .int .i64 0, .int .i64 0, .int .i64 0, .int .i64 0, .int .i64 0]), 6, 48) := by kernel_rfl
theorem infoRun : (Tryz.prog.info? 81).map (fun i => (i.zero, i.size, i.bytes)) = some (some (.agg #[.string ⟨#[]⟩, .int .i64 0, .int .i64 0, .int .i64 0, .int .i64 0, .int .i64 0, .int .i64 0, .int .i64 0, .int .i64 0, .int .i64 0]), 10, 88) := by kernel_rfl
theorem infoJoint : (Tryz.prog.info? 84).map (fun i => (i.zero, i.size, i.bytes)) = some (some (.agg #[.int .i64 0, .int .i64 0]), 2, 16) := by kernel_rfl
theorem infoStep : (Tryz.prog.info? 86).map (fun i => (i.zero, i.size, i.bytes)) = some (some (.agg #[.int .i64 0, .int .i64 0]), 2, 16) := by kernel_rfl
theorem infoDem : (Tryz.prog.info? 63).map (fun i => (i.zero, i.size, i.bytes)) = some (some (.agg #[.string ⟨#[]⟩, .int .i64 0, .int .i64 0, .int .i64 0, .int .i64 0, .int .i64 0, .int .i64 0, .slice none 0 0]), 8, 88) := by kernel_rfl
theorem infoBar : (Tryz.prog.info? 56).map (fun i => (i.zero, i.size, i.bytes)) = some (some (.agg #[.string ⟨#[]⟩, .int .i64 0, .int .i64 0, .int .i64 0, .slice none 0 0]), 5, 64) := by kernel_rfl
theorem infoInt : (Tryz.prog.info? 3).map (fun i => (i.zero, i.size, i.bytes)) = some (some (.int .i64 0), 1, 8) := by kernel_rfl
theorem new_at {w1 : World} {g : Nat} {t : TypeId} {cs : List Value} (h : At w1 g t cs.toArray) : ∀ j u, cs[j]? = some u → w1.cell? ((⟨g, 0, none⟩ : Addr).add j) = some u := by
 intro j u hj
 have : (⟨g, 0, none⟩ : Addr).add j = ⟨g, j, none⟩ := by cases j <;> simp [Addr.add]
 rw [this, h.c j, ← hj]
 simp
def endRes (s : Rd) : Except Nat Nat → Except Nat Rd
 | .ok j => .ok { s with i := j }
 | .error j => .error j
def finT (ts : List Tk) (s : Rd) : Except Nat Rd := endRes s (endT ts s.i)
def barT (ts : List Tk) (i : Nat) : Except Nat ((List UInt8 × List Int) × Nat) :=
 match nameT ts i with
 | .error e => .error e
 | .ok (nm, i1) => match numsT ts 4 i1 with
  | .error e => .error e
  | .ok (n, j) => match dimsT ts ts.length j with
   | .error e => .error e
   | .ok (m, j') => .ok ((nm, n ++ m), j')
section
variable (ts : List Tk) (s : Rd)
theorem body_box : bodyT ts wBox s = match numsT ts 6 (s.i + 1) with | .error e => .error e | .ok (n, j) => finT ts { s with i := j, d := { s.d with boxes := s.d.boxes ++ [n] } } := by
 unfold bodyT lineT finT endRes
 rw [if_neg (by decide), show leastW wBox = 6 by decide]
 dsimp only
 cases numsT ts 6 (s.i + 1) with
 | error e => rfl
 | ok q =>
  obtain ⟨n, j⟩ := q
  dsimp only
  rw [if_neg (by decide)]
  dsimp only
  cases endT ts j with
  | error e => rfl
  | ok j' =>
   dsimp only
   rw [decide_eq_false (show ¬ wBox = wRule by decide), Bool.or_false]
   rfl
theorem body_hole : bodyT ts wHole s = match numsT ts 6 (s.i + 1) with | .error e => .error e | .ok (n, j) => finT ts { s with i := j, d := { s.d with holes := s.d.holes ++ [n] } } := by
 unfold bodyT lineT finT endRes
 rw [if_neg (by decide), show leastW wHole = 6 by decide]
 dsimp only
 cases numsT ts 6 (s.i + 1) with
 | error e => rfl
 | ok q =>
  obtain ⟨n, j⟩ := q
  dsimp only
  rw [if_neg (by decide)]
  dsimp only
  cases endT ts j with
  | error e => rfl
  | ok j' =>
   dsimp only
   rw [decide_eq_false (show ¬ wHole = wRule by decide), Bool.or_false]
   rfl
theorem body_rule : bodyT ts wRule s = match numsT ts 9 (s.i + 1) with | .error e => .error e | .ok (n, j) => finT ts ⟨j, { s.d with rule := n }, true⟩ := by
 unfold bodyT lineT finT endRes
 rw [if_neg (by decide), show leastW wRule = 9 by decide]
 dsimp only
 cases numsT ts 9 (s.i + 1) with
 | error e => rfl
 | ok q =>
  obtain ⟨n, j⟩ := q
  dsimp only
  rw [if_neg (by decide)]
  dsimp only
  cases endT ts j with
  | error e => rfl
  | ok j' =>
   dsimp only
   rw [decide_eq_true (show wRule = wRule by decide), Bool.or_true]
   rfl
theorem body_lap : bodyT ts wLap s = match numsT ts 2 (s.i + 1) with | .error e => .error e | .ok (n, j) => finT ts { s with i := j, d := { s.d with laps := s.d.laps ++ [n] } } := by
 unfold bodyT lineT finT endRes
 rw [if_neg (by decide), show leastW wLap = 2 by decide]
 dsimp only
 cases numsT ts 2 (s.i + 1) with
 | error e => rfl
 | ok q =>
  obtain ⟨n, j⟩ := q
  dsimp only
  rw [if_neg (by decide)]
  dsimp only
  cases endT ts j with
  | error e => rfl
  | ok j' =>
   dsimp only
   rw [decide_eq_false (show ¬ wLap = wRule by decide), Bool.or_false]
   rfl
theorem body_step : bodyT ts wStep s = match numsT ts 2 (s.i + 1) with | .error e => .error e | .ok (n, j) => finT ts { s with i := j, d := { s.d with dems := stepD s.d.dems n } } := by
 unfold bodyT lineT finT endRes
 rw [if_neg (by decide), show leastW wStep = 2 by decide]
 dsimp only
 cases numsT ts 2 (s.i + 1) with
 | error e => rfl
 | ok q =>
  obtain ⟨n, j⟩ := q
  dsimp only
  rw [if_neg (by decide)]
  dsimp only
  cases endT ts j with
  | error e => rfl
  | ok j' =>
   dsimp only
   rw [decide_eq_false (show ¬ wStep = wRule by decide), Bool.or_false]
   rfl
theorem body_run : bodyT ts wRun s = match nameT ts (s.i + 1) with | .error e => .error e | .ok (nm, i) => match numsT ts 9 i with | .error e => .error e | .ok (n, j) => finT ts { s with i := j, d := { s.d with runs := s.d.runs ++ [(nm, n)] } } := by
 unfold bodyT lineT finT endRes
 rw [if_pos (by decide), show leastW wRun = 9 by decide]
 cases nameT ts (s.i + 1) with
 | error e => rfl
 | ok q =>
  obtain ⟨nm, i⟩ := q
  dsimp only
  cases numsT ts 9 i with
  | error e => rfl
  | ok q =>
   obtain ⟨n, j⟩ := q
   dsimp only
   rw [if_neg (by decide)]
   dsimp only
   cases endT ts j with
   | error e => rfl
   | ok j' =>
    dsimp only
    rw [decide_eq_false (show ¬ wRun = wRule by decide), Bool.or_false]
    rfl
theorem body_demand : bodyT ts wDemand s = match nameT ts (s.i + 1) with | .error e => .error e | .ok (nm, i) => match numsT ts 6 i with | .error e => .error e | .ok (n, j) => finT ts { s with i := j, d := { s.d with dems := s.d.dems ++ [(nm, n, [])] } } := by
 unfold bodyT lineT finT endRes
 rw [if_pos (by decide), show leastW wDemand = 6 by decide]
 cases nameT ts (s.i + 1) with
 | error e => rfl
 | ok q =>
  obtain ⟨nm, i⟩ := q
  dsimp only
  cases numsT ts 6 i with
  | error e => rfl
  | ok q =>
   obtain ⟨n, j⟩ := q
   dsimp only
   rw [if_neg (by decide)]
   dsimp only
   cases endT ts j with
   | error e => rfl
   | ok j' =>
    dsimp only
    rw [decide_eq_false (show ¬ wDemand = wRule by decide), Bool.or_false]
    rfl
theorem body_bar : bodyT ts wBar s = match barT ts (s.i + 1) with | .error e => .error e | .ok (x, j) => finT ts { s with i := j, d := { s.d with bars := s.d.bars ++ [x] } } := by
 unfold bodyT lineT finT endRes barT
 rw [if_pos (by decide), show leastW wBar = 4 by decide]
 cases nameT ts (s.i + 1) with
 | error e => rfl
 | ok q =>
  obtain ⟨nm, i⟩ := q
  dsimp only
  cases numsT ts 4 i with
  | error e => rfl
  | ok q =>
   obtain ⟨n, j⟩ := q
   dsimp only
   rw [if_pos rfl]
   cases dimsT ts ts.length j with
   | error e => rfl
   | ok q =>
    obtain ⟨m, j1⟩ := q
    dsimp only
    cases endT ts j1 with
    | error e => rfl
    | ok j' =>
     dsimp only
     rw [decide_eq_false (show ¬ wBar = wRule by decide), Bool.or_false]
     rfl
theorem body_member : bodyT ts wMember s = match nameT ts (s.i + 1) with | .error e => .error e | .ok (nm, i) => match numsT ts 3 i with | .error e => .error e | .ok (n, j) => finT ts { s with i := j, d := { s.d with name := nm, mem := n } } := by
 unfold bodyT lineT finT endRes
 rw [if_pos (by decide), show leastW wMember = 3 by decide]
 cases nameT ts (s.i + 1) with
 | error e => rfl
 | ok q =>
  obtain ⟨nm, i⟩ := q
  dsimp only
  cases numsT ts 3 i with
  | error e => rfl
  | ok q =>
   obtain ⟨n, j⟩ := q
   dsimp only
   rw [if_neg (by decide)]
   dsimp only
   cases endT ts j with
   | error e => rfl
   | ok j' =>
    dsimp only
    rw [decide_eq_false (show ¬ wMember = wRule by decide), Bool.or_false]
    rfl
end
def OthE (ts : List Tk) (R : Nat) (w : World) : Except Nat Rd → Ending → World → Prop
 | .ok s', e, w' => e = .returned (.tuple #[]) ∧ (∃ p', RdW w' R ts s' p') ∧ Below R w w'
 | .error j, e, w' => e = panE ts j ∧ Below R w w'
def EndE (ts : List Tk) (R : Nat) (w : World) (s : Rd) (p : PV) : Except Nat Nat → Ending → World → Prop
 | .ok j, e, w' => e = .returned (.tuple #[]) ∧ RdW w' R ts { s with i := j } p ∧ Below R w w'
 | .error j, e, w' => e = panE ts j ∧ Below R w w'
theorem Adv.belowR {ts : List Tk} {R : Nat} {t : TypeId} {cs : Array Value} {w w' : World} {j : Nat} (h : Adv ts R t cs w j w') (hR : R ≤ w.heap.size) : Below R w w' := h.2.below hR (fun x hx => by simp only [List.mem_singleton] at hx; subst hx; exact Nat.le_refl _)
theorem Wrt.belowR {R : Nat} {w w' : World} (h : Wrt [⟨R, 1, none⟩] w w') (hR : R ≤ w.heap.size) : Below R w w' := h.below hR (fun x hx => by simp only [List.mem_singleton] at hx; subst hx; exact Nat.le_refl _)
theorem end_rd (w : World) (R : Nat) (ts : List Tk) (s : Rd) (p : PV) (h : RdW w R ts s p) (hi : s.i < ts.length) (hE : Ends ts) :
  Calls Tryz.prog 95 #[.pointer (some ⟨R, 0, none⟩)] w (EndE ts R w s p (endT ts s.i)) := by
 have hR : R ≤ w.heap.size := Nat.le_of_lt h.tok.own.lt
 have H := end_any w R _ _ ts s.i h.tok hi hE
 cases he : endT ts s.i with
 | error j =>
  rw [he] at H
  refine H.mono ?_
  rintro e w' ⟨h1, h2⟩
  exact ⟨h1, h2.belowR hR⟩
 | ok j =>
  rw [he] at H
  refine H.mono ?_
  rintro e w' ⟨h1, h2⟩
  exact ⟨h1, h.adv h2, h2.belowR hR⟩
theorem OthE.fin {ts : List Tk} {R : Nat} {w w5 w' : World} {s : Rd} {p : PV} {r : Except Nat Nat} {e : Ending} (h : EndE ts R w5 s p r e w') (hb : Below R w w5) : OthE ts R w (endRes s r) e w' := by
 cases r with
 | error j => exact ⟨h.1, hb.trans h.2⟩
 | ok j => exact ⟨h.1, ⟨p, h.2.1⟩, hb.trans h.2.2⟩
theorem OthE.bad {ts : List Tk} {R : Nat} {w w' : World} {j : Nat} {e : Ending} (h : e = panE ts j) (hb : Below R w w') : OthE ts R w (.error j) e w' := ⟨h, hb⟩
theorem nps_no {R Q o k j : Nat} (h1 : Q ≠ R) (h2 : j < o) : (⟨Q, j, none⟩ : Addr) ∉ nps R Q o k := fun h => by
 rcases nps_mem h with e | ⟨c, _, e⟩
 ·injection e with e; exact h1 e
 ·injection e with _ e; omega
theorem two {l : List Int} (h : l.length = 2) : ∃ a b, l = [a, b] := by
 match l, h with
 | [a, b], _ => exact ⟨a, b, rfl⟩
theorem three {l : List Int} (h : l.length = 3) : ∃ a b c, l = [a, b, c] := by
 match l, h with
 | [a, b, c], _ => exact ⟨a, b, c, rfl⟩
theorem nine {l : List Int} (h : l.length = 9) : ∃ a b c d e f g i j, l = [a, b, c, d, e, f, g, i, j] := by
 match l, h with
 | [a, b, c, d, e, f, g, i, j], _ => exact ⟨a, b, c, d, e, f, g, i, j, rfl⟩
end Go.Proofs.YtccakklnbhcbdaaGreatDoor
