/- lorry's search: what holds within a visit; how the steps of a visit change the loads. slices: swaps and rotations only move elements. -/
import Derived.Test.YtjlkbmaigcgnbaaDoorBJ22
import Derived.Test.YtjlkbmaigcgnbaaDoorBJ17
set_option linter.unusedVariables false
namespace Go.Proofs.YtjlkbmaigcgnbaaDoor
open Go.ChangeShapes Go.WideShapes Go.ChangeAt Go.RowKit
theorem ObjS.block {w w' : World} {S : Nat} {fl fo : Value} {most : Int} {bv : Value} {best : Fnd} (h : ObjS w S fl fo most bv best) (hb : w'.heap[S]? = w.heap[S]?) : ObjS w' S fl fo most bv best := ⟨hb.trans h.1, h.2⟩
theorem SeenZ.not_int {w : World} {m n : Nat} {acc : List Int} (h : SeenZ w m n acc) (cap : Nat) : ¬ IntB w m cap := fun ⟨zs, _, hz⟩ => by
  obtain ⟨D, ⟨es, clock, h1, -⟩, -⟩ := h
  rw [h1] at hz
  cases hz
structure VisI (S M : Nat) (fl fo : Value) (most : Int) (vo vm : Value) (cs : List Value) (w : World) (L : List (List Nat)) (ms : List Int) (cs' : List Value) (seen : List Int) (bv : Value) (best : Fnd) (wr : World) : Prop where
  obj : ObjS wr S fl fo most bv best
  ld : LdX S wr L ms vo vm cs'
  vis : VisR S vo vm cs w wr
  sub : SubC w cs cs'
  nom : ∀ j (h : j < cs'.length), cs'[j].ownBlock ≠ some M
  seen : SeenZ wr M seen.length seen.reverse
  hM : w.heap.size ≤ M
  hS : S < w.heap.size
  hvo : ∀ b, vo.ownBlock = some b → b < w.heap.size ∧ S < b
  hvm : ∀ b, vm.ownBlock = some b → b < w.heap.size ∧ S < b
section
variable {S M : Nat} {fl fo : Value} {most : Int} {vo vm : Value} {cs : List Value} {w : World} {L : List (List Nat)} {ms : List Int} {cs' : List Value} {seen : List Int} {bv : Value} {best : Fnd} {wr w2 : World}
theorem VisI.start (hA : ObjS w S fl fo most bv best) (hL : LdX S w L ms vo vm cs) : VisI S w.heap.size fl fo most vo vm cs w L ms cs [] bv best (w.alloc (.map #[] 0)) where
  obj := hA.block (Below.heap_alloc w _ S hA.1.lt)
  ld := hL.up (below_al (Below.refl _ _) _)
  vis := ⟨(below_al (Below.refl w.heap.size w) _).mono (Nat.le_of_lt hA.1.lt), fun b _ h _ _ _ => Below.heap_alloc w _ b h, KeepI.al _⟩
  sub := SubC.refl
  nom := fun j h e => by have := (hL.lt h e).1; omega
  seen := SeenZ.made w
  hM := Nat.le_refl _
  hS := hA.1.lt
  hvo := fun b hb => (own_lt hL.o hb)
  hvm := fun b hb => (own_lt hL.m hb)
theorem VisI.csb (h : VisI S M fl fo most vo vm cs w L ms cs' seen bv best wr) {j : Nat} (hj : j < cs'.length) {b : Nat} (hb : cs'[j].ownBlock = some b) : b < wr.heap.size ∧ S < b ∧ b ≠ M ∧ ((∃ i, ∃ h2 : i < cs.length, cs[i].ownBlock = some b) ∨ w.heap.size ≤ b) :=
  ⟨(h.ld.lt hj hb).1, (h.ld.lt hj hb).2, fun e => h.nom j hj (by rw [hb, e]), h.sub j hj b hb⟩
theorem VisI.step (h : VisI S M fl fo most vo vm cs w L ms cs' seen bv best wr) (hv : VisR S vo vm cs' wr w2) : VisR S vo vm cs w w2 ∧ w2.heap[M]? = wr.heap[M]? := by
  have hMr := h.seen.lt
  have hw := h.vis.bel.size
  refine ⟨⟨h.vis.bel.trans hv.bel, fun b h1 h2 h3 h4 h5 => ?_, h.vis.keep.trans hv.keep⟩, hv.far M (by have := h.hS; have := h.hM; omega) hMr (fun e => ?_) (fun e => ?_) h.nom⟩
  · refine (hv.far b h1 (by omega) h3 h4 fun j hj e => ?_).trans (h.vis.far b h1 h2 h3 h4 h5)
    rcases (h.csb hj e).2.2.2 with ⟨i, hi, q⟩ | q
    · exact h5 i hi q
    · omega
  · have := (h.hvo M e).1; have := h.hM; omega
  · have := (h.hvm M e).1; have := h.hM; omega
theorem VisI.al (h : VisI S M fl fo most vo vm cs w L ms cs' seen bv best wr) (hb : Below wr.heap.size wr w2) : VisI S M fl fo most vo vm cs w L ms cs' seen bv best w2 where
  obj := h.obj.block (hb.block S h.obj.1.lt)
  ld := h.ld.up hb
  vis := ⟨h.vis.bel.trans (hb.mono (by have := h.obj.1.lt; omega)), fun b h1 h2 h3 h4 h5 => (hb.block b (by have := h.vis.bel.size; omega)).trans (h.vis.far b h1 h2 h3 h4 h5), h.vis.keep.trans (KeepI.bel hb)⟩
  sub := h.sub
  nom := h.nom
  seen := h.seen.bel hb
  hM := h.hM
  hS := h.hS
  hvo := h.hvo
  hvm := h.hvm
theorem VisI.mark (h : VisI S M fl fo most vo vm cs w L ms cs' seen bv best wr) (hg : wr.grownBy w2 (some M)) {x : Int} (hs : SeenZ w2 M (seen.length + 1) (seen.reverse ++ [x])) : VisI S M fl fo most vo vm cs w L ms cs' (x :: seen) bv best w2 := by
  have hMS : S ≠ M := by have := h.hS; have := h.hM; omega
  have hw := h.vis.bel.size
  have hwM := h.hM
  have hne : ∀ b, b ≠ M → b < wr.heap.size → w2.heap[b]? = wr.heap[b]? := fun b e hb => hg.block b hb (fun q => e (by injection q))
  have hk : KeepI wr w2 := KeepI.grown hg fun g cap e => by injection e with e; subst e; exact h.seen.not_int cap
  exact {
    obj := h.obj.block (hne S hMS h.obj.1.lt)
    ld := h.ld.keep hk (fun b _ h2 h3 => hne b (by have := (h.hvo b h3).1; omega) h2) (fun b _ h2 h3 => hne b (by have := (h.hvm b h3).1; omega) h2)
    vis := ⟨⟨hg.os.trans h.vis.bel.os, hg.tape.trans h.vis.bel.tape, hg.output.trans h.vis.bel.output, Nat.le_trans hw hg.size, fun b hb => (hne b (by have := h.hS; omega) (by have := h.hS; omega)).trans (h.vis.bel.block b hb)⟩, fun b h1 h2 h3 h4 h5 => (hne b (by omega) (by omega)).trans (h.vis.far b h1 h2 h3 h4 h5), h.vis.keep.trans hk⟩
    sub := h.sub
    nom := h.nom
    seen := by rw [List.reverse_cons, List.length_cons]; exact hs
    hM := h.hM
    hS := h.hS
    hvo := h.hvo
    hvm := h.hvm }
theorem LdX.putC (h : LdX S w L ms vo vm cs) {g j : Nat} (hg : vo.ownBlock = some g) (hj : j < cs.length) {u : Value} {L2 : List (List Nat)} (hl : L2.length = L.length) (hlen : ∀ t (h1 : t < L.length) (h2 : t < L2.length), j ≠ t → L2[t].length = L[t].length) (hu : ∀ h2 : j < L2.length, IntS S w u L2[j].length) (d1 : Dj vo.ownBlock u.ownBlock) (d2 : Dj vm.ownBlock u.ownBlock) : LdX S (w.setCell ⟨g, j, none⟩ u) L2 ms vo vm (cs.set j u) where
  o := by rw [List.length_set]; exact own_put h.o hg hj u
  m := ownsRow_setCell_other h.m (fun e => h.om g hg e) u
  n := by rw [List.length_set, hl]; exact h.n
  nm := by rw [hl]; exact h.nm
  each := fun t h1 h2 => by
    have hk : KeepI w (w.setCell ⟨g, j, none⟩ u) := KeepI.setO (not_int h.o hg)
    rw [List.length_set] at h1
    by_cases e : j = t
    · subst e
      rw [List.getElem_set, if_pos rfl]
      exact (hu h2).keep hk
    · rw [List.getElem_set, if_neg e, hlen t (by omega) h2 e]
      exact (h.each t h1 (by omega)).keep hk
  om := h.om
  ov := fun t h1 => by
    rw [List.length_set] at h1
    by_cases e : j = t
    · subst e; rw [List.getElem_set, if_pos rfl]; exact d1
    · rw [List.getElem_set, if_neg e]; exact h.ov t h1
  mv := fun t h1 => by
    rw [List.length_set] at h1
    by_cases e : j = t
    · subst e; rw [List.getElem_set, if_pos rfl]; exact d2
    · rw [List.getElem_set, if_neg e]; exact h.mv t h1
theorem LdX.putM (h : LdX S w L ms vo vm cs) {g j : Nat} (hg : vm.ownBlock = some g) (hj : j < ms.length) (z : Int) : LdX S (w.setCell ⟨g, j, none⟩ (.int .i64 z)) L (ms.set j z) vo vm cs where
  o := ownsRow_setCell_other h.o (fun e => h.om g e hg) _
  m := by
    rw [List.length_set, show intV (ms.set j z) = (intV ms).set j (.int .i64 z) by unfold intV; rw [List.map_set]]
    exact own_put h.m hg hj _
  n := h.n
  nm := by rw [List.length_set]; exact h.nm
  each := fun t h1 h2 => (h.each t h1 h2).keep (KeepI.setI g j z)
  om := h.om
  ov := h.ov
  mv := h.mv
theorem VisR.setO (h : LdX S w L ms vo vm cs) {g j : Nat} (hg : vo.ownBlock = some g) (u : Value) : VisR S vo vm cs w (w.setCell ⟨g, j, none⟩ u) :=
  ⟨(Below.refl S w).setCell (p := ⟨g, j, none⟩) (by have := (own_lt h.o hg).2; show S ≤ g; omega) u, fun b _ _ h3 _ _ => heap_setCell_other w _ b u (fun e => h3 (by rw [hg, e])), KeepI.setO (not_int h.o hg)⟩
theorem VisR.setM (h : LdX S w L ms vo vm cs) {g j : Nat} (hg : vm.ownBlock = some g) (z : Int) : VisR S vo vm cs w (w.setCell ⟨g, j, none⟩ (.int .i64 z)) :=
  ⟨(Below.refl S w).setCell (p := ⟨g, j, none⟩) (by have := (own_lt h.m hg).2; show S ≤ g; omega) _, fun b _ _ _ h4 _ => heap_setCell_other w _ b _ (fun e => h4 (by rw [hg, e])), KeepI.setI g j z⟩
theorem VisI.massTo (h : VisI S M fl fo most vo vm cs w L ms cs' seen bv best wr) {g j : Nat} (hg : vm.ownBlock = some g) (hj : j < ms.length) (z : Int) : VisI S M fl fo most vo vm cs w L (ms.set j z) cs' seen bv best (wr.setCell ⟨g, j, none⟩ (.int .i64 z)) := by
  obtain ⟨h1, h2⟩ := h.step (VisR.setM h.ld hg z)
  exact ⟨h.obj.block (heap_setCell_other wr _ S _ (fun e => by have := (own_lt h.ld.m hg).2; have e : S = g := e; omega)), h.ld.putM hg hj z, h1, h.sub, h.nom, h.seen.same h2, h.hM, h.hS, h.hvo, h.hvm⟩
theorem VisI.cut (h : VisI S M fl fo most vo vm cs w L ms cs' seen bv best wr) {g j : Nat} (hg : vo.ownBlock = some g) (hj : j < cs'.length) {u : Value} {L2 : List (List Nat)} (hl : L2.length = L.length) (hlen : ∀ t (h1 : t < L.length) (h2 : t < L2.length), j ≠ t → L2[t].length = L[t].length) (hu : ∀ h2 : j < L2.length, IntS S wr u L2[j].length) (hb : u.ownBlock = cs'[j].ownBlock) : VisI S M fl fo most vo vm cs w L2 ms (cs'.set j u) seen bv best (wr.setCell ⟨g, j, none⟩ u) := by
  obtain ⟨h1, h2⟩ := h.step (VisR.setO h.ld hg u)
  refine ⟨h.obj.block (heap_setCell_other wr _ S _ (fun e => by have := (own_lt h.ld.o hg).2; have e : S = g := e; omega)), h.ld.putC hg hj hl hlen hu (by rw [hb]; exact h.ld.ov j hj) (by rw [hb]; exact h.ld.mv j hj), h1, fun t ht b hq => ?_, fun t ht => ?_, h.seen.same h2, h.hM, h.hS, h.hvo, h.hvm⟩
  · rw [List.length_set] at ht
    by_cases e : j = t
    · subst e; rw [List.getElem_set, if_pos rfl, hb] at hq; exact h.sub j ht b hq
    · rw [List.getElem_set, if_neg e] at hq; exact h.sub t ht b hq
  · rw [List.length_set] at ht
    by_cases e : j = t
    · subst e; rw [List.getElem_set, if_pos rfl, hb]; exact h.nom j ht
    · rw [List.getElem_set, if_neg e]; exact h.nom t ht
theorem VisI.app (h : VisI S M fl fo most vo vm cs w L ms cs' seen bv best wr) {g j : Nat} (hg : vo.ownBlock = some g) (hj : j < cs'.length) {v' : Value} {L2 : List (List Nat)} (hl : L2.length = L.length) (hlen : ∀ t (h1 : t < L.length) (h2 : t < L2.length), j ≠ t → L2[t].length = L[t].length) (hu : ∀ h2 : j < L2.length, IntS S w2 v' L2[j].length) (hgr : wr.grownBy w2 cs'[j].ownBlock) (hk : KeepI wr w2) (hloc : v'.ownBlock = cs'[j].ownBlock ∨ v'.ownBlock = some wr.heap.size) :
    VisI S M fl fo most vo vm cs w L2 ms (cs'.set j v') seen bv best (w2.setCell ⟨g, j, none⟩ v') ∧ w2.cell? ⟨g, j, none⟩ = some cs'[j] ∧ w2.frozen? ⟨g, j, none⟩ = false := by
  have hbl : ∀ b, cs'[j].ownBlock ≠ some b → b < wr.heap.size → w2.heap[b]? = wr.heap[b]? := fun b e hb => hgr.block b hb (fun q => e q.symm)
  have hvr : VisR S vo vm cs' wr w2 := ⟨⟨hgr.os, hgr.tape, hgr.output, hgr.size, fun b hb => hbl b (fun e => by have := (h.csb hj e).2.1; omega) (by have := h.obj.1.lt; omega)⟩, fun b _ h2 _ _ h5 => hbl b (h5 j hj) h2, hk⟩
  obtain ⟨h1, h2⟩ := h.step hvr
  have hvo := h.hvo g hg
  have hws := h.vis.bel.size
  have hl2 : LdX S w2 L ms vo vm cs' := h.ld.keep hk (fun b _ q1 q2 => hbl b (fun e => h.ld.ov j hj b q2 e) q1) (fun b _ q1 q2 => hbl b (fun e => h.ld.mv j hj b q2 e) q1)
  have hI : VisI S M fl fo most vo vm cs w L ms cs' seen bv best w2 := ⟨h.obj.block (hbl S (fun e => by have := (h.csb hj e).2.1; omega) h.obj.1.lt), hl2, h1, h.sub, h.nom, h.seen.same h2, h.hM, h.hS, h.hvo, h.hvm⟩
  obtain ⟨h3, h4⟩ := hI.step (VisR.setO (j := j) hl2 hg v')
  have hMr := h.seen.lt
  have d1 : Dj vo.ownBlock v'.ownBlock := fun x hx hy => by
    rcases hloc with e | e
    · rw [e] at hy; exact h.ld.ov j hj x hx hy
    · rw [e] at hy; injection hy with hy; have := (h.hvo x hx).1; omega
  have d2 : Dj vm.ownBlock v'.ownBlock := fun x hx hy => by
    rcases hloc with e | e
    · rw [e] at hy; exact h.ld.mv j hj x hx hy
    · rw [e] at hy; injection hy with hy; have := (h.hvm x hx).1; omega
  refine ⟨⟨hI.obj.block (heap_setCell_other w2 _ S _ (fun e => by have e : S = g := e; omega)), hl2.putC hg hj hl hlen hu d1 d2, h3, fun t ht b hq => ?_, fun t ht => ?_, hI.seen.same h4, h.hM, h.hS, h.hvo, h.hvm⟩, ?_, ?_⟩
  · rw [List.length_set] at ht
    by_cases e : j = t
    · subst e
      rw [List.getElem_set, if_pos rfl] at hq
      rcases hloc with q | q
      · rw [q] at hq; exact h.sub j ht b hq
      · rw [q] at hq; injection hq with hq; right; omega
    · rw [List.getElem_set, if_neg e] at hq; exact h.sub t ht b hq
  · rw [List.length_set] at ht
    by_cases e : j = t
    · subst e
      rw [List.getElem_set, if_pos rfl]
      rcases hloc with q | q
      · rw [q]; exact h.nom j ht
      · rw [q]; intro q2; injection q2 with q2; omega
    · rw [List.getElem_set, if_neg e]; exact h.nom t ht
  · obtain ⟨g', cap, e, -, -, -, -, -, hc⟩ := own_some hl2.o (by omega)
    rw [e] at hg
    have hg : some g' = some g := hg
    injection hg with hg
    subst hg
    exact hc j _ (List.getElem?_eq_getElem hj)
  · obtain ⟨g', cap, e, -, -, -, -, hf, -⟩ := own_some hl2.o (by omega)
    rw [e] at hg
    have hg : some g' = some g := hg
    injection hg with hg
    subst hg
    exact hf j
theorem VisI.call (h : VisI S M fl fo most vo vm cs w L ms cs' seen bv best wr) {best2 : Fnd} (hv : VisE S fl fo most L ms vo vm cs' wr best2 w2) : ∃ bv2 cs2, VisI S M fl fo most vo vm cs w L ms cs2 seen bv2 best2 w2 := by
  obtain ⟨bv2, cs2, h1, h2, h3, h4⟩ := hv
  obtain ⟨q1, q2⟩ := h.step h3
  have hMr := h.seen.lt
  have hws := h.vis.bel.size
  refine ⟨bv2, cs2, h1, h2, q1, fun t ht b hq => ?_, fun t ht hq => ?_, h.seen.same q2, h.hM, h.hS, h.hvo, h.hvm⟩
  · rcases h4 t ht b hq with ⟨i, hi, e⟩ | e
    · exact h.sub i hi b e
    · right; omega
  · rcases h4 t ht M hq with ⟨i, hi, e⟩ | e
    · exact h.nom i hi e
    · omega
theorem VisI.last (h : VisI S M fl fo most vo vm cs w L ms cs' seen bv best wr) {w3 : World} (hb : Below wr.heap.size wr w2) {L2 : List (List Nat)} {ms2 : List Int} {vo2 vm2 u : Value} (ho : ∀ b, vo2.ownBlock = some b → wr.heap.size ≤ b) (hm : ∀ b, vm2.ownBlock = some b → wr.heap.size ≤ b) (hu : ∀ b, u.ownBlock = some b → wr.heap.size ≤ b) {best2 : Fnd} (hv : VisE S fl fo most L2 ms2 vo2 vm2 (cs' ++ [u]) w2 best2 w3) : VisE S fl fo most L ms vo vm cs w best2 w3 := by
  obtain ⟨bv2, cs2, h1, h2, h3, h4⟩ := hv
  have h5 := h.al hb
  have hws := h.vis.bel.size
  have hws2 := hb.size
  have hcs : ∀ j (hj : j < (cs' ++ [u]).length) b, (cs' ++ [u])[j].ownBlock = some b → (∃ i, ∃ h2 : i < cs'.length, cs'[i].ownBlock = some b) ∨ wr.heap.size ≤ b := fun j hj b e => by
    by_cases q : j < cs'.length
    · rw [List.getElem_append_left q] at e; exact .inl ⟨j, q, e⟩
    · rw [List.getElem_append_right (by omega), List.getElem_singleton] at e; exact .inr (hu b e)
  have far : ∀ b, S < b → b < wr.heap.size → (∀ j (hj : j < cs'.length), cs'[j].ownBlock ≠ some b) → w3.heap[b]? = w2.heap[b]? := fun b q1 q2 q3 => h3.far b q1 (by omega) (fun e => by have := ho b e; omega) (fun e => by have := hm b e; omega) fun j hj e => by
    rcases hcs j hj b e with ⟨i, hi, q⟩ | q
    · exact q3 i hi q
    · omega
  refine ⟨bv2, cs', h1, h5.ld.keep h3.keep (fun b q1 q2 q3 => far b q1 (by have := (h.hvo b q3).1; omega) fun j hj e => h.ld.ov j hj b q3 e) (fun b q1 q2 q3 => far b q1 (by have := (h.hvm b q3).1; omega) fun j hj e => h.ld.mv j hj b q3 e), ⟨h5.vis.bel.trans h3.bel, fun b q1 q2 q3 q4 q5 => ?_, h5.vis.keep.trans h3.keep⟩, h.sub⟩
  refine (far b q1 (by omega) fun j hj e => ?_).trans (h5.vis.far b q1 q2 q3 q4 q5)
  rcases h.sub j hj b e with ⟨i, hi, q⟩ | q
  · exact q5 i hi q
  · omega
end
end Go.Proofs.YtjlkbmaigcgnbaaDoor
set_option linter.unusedVariables false
namespace Go.Proofs.YtjlkbmaigcgnbaaDoor
open Go.ChangeShapes Go.WideShapes Go.ChangeAt Go.RowKit
structure PmW (base g cap n : Nat) (w : World) (D : List Nat) : Prop where
  row : w.ownsRow base 3 1 (.slice (some ⟨g, 0, none⟩) n cap) n (natV D)
  len : D.length = n
def PmR (base g cap n : Nat) (D : List Nat) (w w' : World) : Prop := ∃ D', D'.Perm D ∧ PmW base g cap n w' D' ∧ Below base w w'
section
variable {base g cap n : Nat} {w w' : World} {D : List Nat}
theorem PmW.up (h : PmW base g cap n w D) (hb : Below w.heap.size w w') : PmW base g cap n w' D := ⟨World.ownsRow_up h.row hb, h.len⟩
theorem PmW.own (h : PmW base g cap n w D) : base ≤ g := (own_lt h.row (b := g) rfl).2
theorem PmW.cell (h : PmW base g cap n w D) {p : Nat} (hp : p < D.length) : w.cell? ⟨g, p, none⟩ = some (.int .i64 (D[p] : Int)) ∧ w.frozen? ⟨g, p, none⟩ = false := by
  obtain ⟨h1, h2⟩ := own_at h.row
  exact ⟨h2 p _ (by unfold natV; rw [List.getElem?_map, List.getElem?_eq_getElem hp]; rfl), h1 p⟩
theorem PmW.swap (h : PmW base g cap n w D) {p q : Nat} (hp : p < D.length) (hq : q < D.length) : PmW base g cap n ((w.setCell ⟨g, p, none⟩ (.int .i64 (D[q] : Int))).setCell ⟨g, q, none⟩ (.int .i64 (D[p] : Int))) ((D.set p D[q]).set q D[p]) ∧ ((D.set p D[q]).set q D[p]).Perm D := by
  have hl := h.len
  refine ⟨⟨?_, by simp [hl]⟩, List.set_set_perm hp hq⟩
  have h1 := own_put (own_put h.row (g := g) (k := p) rfl (by omega) (.int .i64 (D[q] : Int))) (g := g) (k := q) rfl (by omega) (.int .i64 (D[p] : Int))
  rw [show natV ((D.set p D[q]).set q D[p]) = ((natV D).set p (.int .i64 (D[q] : Int))).set q (.int .i64 (D[p] : Int)) by unfold natV; rw [List.map_set, List.map_set]]
  exact h1
theorem PmR.refl (h : PmW base g cap n w D) : PmR base g cap n D w w := ⟨D, List.Perm.refl _, h, Below.refl _ _⟩
end
set_option maxRecDepth 100000 in
set_option maxHeartbeats 1000000 in
theorem swapR_any (a b k : Nat) (cv : Value) (base g cap n : Nat) (D : List Nat) (w : World) (hn : n ≤ 1000000) (hbs : base ≤ w.heap.size) (hab : a ≠ b) (ha : a + k ≤ n) (hb : b + k ≤ n) (h : PmW base g cap n w D) :
    Calls Tryd.prog 96 #[.slice (some ⟨g, 0, none⟩) n cap, .int .i64 (a : Int), .int .i64 (b : Int), .int .i64 (k : Int), cv] w fun e w' => e = .returned (.tuple #[]) ∧ PmR base g cap n D w w' := by
  have hg := h.own
  have h0 := Lib.hid h
  clear h
  go_enter Tryd.func96, Tryd.ntmps96
  go_wp2_with fail
  go_loopg [10] k (fun g1 i wr => ∃ (j : Nat) (D2 : List Nat), j ≤ k ∧ i = .int .i64 (j : Int) ∧ Hid (g1 = k - j) ∧ Hid (D2.Perm D) ∧ Hid (PmW base g cap n wr D2) ∧ Below base w wr)
  case atStart => exact ⟨0, D, Nat.zero_le _, rfl, Lib.hid rfl, Lib.hid (List.Perm.refl _), h0, Below.refl _ _⟩
  case round =>
    clear h0
    obtain ⟨j, D2, hj, rfl, hr, hP, hW, HB⟩ := hrel
    by_cases hlt : j < k
    · obtain ⟨p, hp⟩ : ∃ p, a + j = p := ⟨_, rfl⟩
      obtain ⟨q, hq⟩ : ∃ q, b + j = q := ⟨_, rfl⟩
      have x1 : IntKind.i64.wrap ((a : Int) + (j : Int)) = (p : Int) := by rw [IntWalk.i64_in _ (by omega)]; omega
      have x2 : IntKind.i64.wrap ((b : Int) + (j : Int)) = (q : Int) := by rw [IntWalk.i64_in _ (by omega)]; omega
      have x3 : p < n := by omega
      have x4 : q < n := by omega
      have x5 : ¬ p = q := by omega
      have x6 : ¬ q = p := by omega
      have hpl : Hid (p < D2.length) := Lib.hid (by rw [hW.out.len]; exact x3)
      have hql : Hid (q < D2.length) := Lib.hid (by rw [hW.out.len]; exact x4)
      obtain ⟨c1, f1⟩ := hW.out.cell hpl.out
      obtain ⟨c2, f2⟩ := hW.out.cell hql.out
      obtain ⟨s1, s2⟩ := hW.out.swap hpl.out hql.out
      obtain ⟨y, hy⟩ : ∃ y, D2[p]'hpl.out = y := ⟨_, rfl⟩
      obtain ⟨z, hz⟩ : ∃ z, D2[q]'hql.out = z := ⟨_, rfl⟩
      replace c1 : wr.cell? ⟨g, p, none⟩ = some (.int .i64 (y : Int)) := by rw [← hy]; exact c1
      replace c2 : wr.cell? ⟨g, q, none⟩ = some (.int .i64 (z : Int)) := by rw [← hz]; exact c2
      replace s1 : PmW base g cap n ((wr.setCell ⟨g, p, none⟩ (.int .i64 (z : Int))).setCell ⟨g, q, none⟩ (.int .i64 (y : Int))) ((D2.set p z).set q y) := by rw [← hy, ← hz]; exact s1
      replace s2 : Hid (((D2.set p z).set q y).Perm D) := Lib.hid (by rw [← hy, ← hz]; exact s2.trans hP.out)
      have HB2 := (HB.setCell (p := ⟨g, p, none⟩) hg (.int .i64 (z : Int))).setCell (p := ⟨g, q, none⟩) hg (.int .i64 (y : Int))
      have HB3 : Below base w ((wr.setCell ⟨g, p, none⟩ (.int .i64 (z : Int))).setCell ⟨g, q, none⟩ (.int .i64 (y : Int))).drew := below_drew HB2
      have s3 := s1.up (drew_bel _)
      replace s1 := Lib.hid s1
      replace s3 := Lib.hid s3
      clear hp hq hpl hql hy hz hW hP
      go_upto_region 3 with fail
      go_region_law (first | fail)
      all_goals
        go_wp2_with fail
        go_roundg (k - (j + 1))
        case measure => have := hr.out; omega
        case rel => exact ⟨j + 1, _, by omega, by go_num, Lib.hid rfl, s2, s3, HB3⟩
    · go_wp2_with fail
      go_end0
      exact ⟨rfl, D2, hP.out, hW.out, HB⟩
set_option maxRecDepth 100000 in
set_option maxHeartbeats 1000000 in
theorem rotate_any (a m b : Nat) (cv : Value) (base g cap n : Nat) (D : List Nat) (w : World) (hn : n ≤ 1000000) (hbs : base ≤ w.heap.size) (ha : a < m) (hm : m < b) (hb : b ≤ n) (h : PmW base g cap n w D) :
    Calls Tryd.prog 92 #[.slice (some ⟨g, 0, none⟩) n cap, .int .i64 (a : Int), .int .i64 (m : Int), .int .i64 (b : Int), cv] w fun e w' => e = .returned (.tuple #[]) ∧ PmR base g cap n D w w' := by
  have h0 := Lib.hid h
  clear h
  obtain ⟨i0, hi0⟩ : ∃ i0, m - a = i0 := ⟨_, rfl⟩
  obtain ⟨j0, hj0⟩ : ∃ j0, b - m = j0 := ⟨_, rfl⟩
  have x1 : IntKind.i64.wrap ((m : Int) - (a : Int)) = (i0 : Int) := by rw [IntWalk.i64_in _ (by omega)]; omega
  have x2 : IntKind.i64.wrap ((b : Int) - (m : Int)) = (j0 : Int) := by rw [IntWalk.i64_in _ (by omega)]; omega
  have hst : 1 ≤ i0 ∧ i0 ≤ m ∧ 1 ≤ j0 ∧ m + j0 ≤ n := by omega
  clear hi0 hj0
  go_enter Tryd.func92, Tryd.ntmps92
  go_wp2_with fail
  go_loopg [10, 11] (i0 + j0) (fun g1 u v wr => ∃ (i j : Nat) (D2 : List Nat), u = .int .i64 (i : Int) ∧ v = .int .i64 (j : Int) ∧ (1 ≤ i ∧ i ≤ m ∧ 1 ≤ j ∧ m + j ≤ n) ∧ Hid (g1 = i + j) ∧ Hid (D2.Perm D) ∧ Hid (PmW base g cap n wr D2) ∧ Below base w wr)
  case atStart => exact ⟨i0, j0, D, rfl, rfl, hst, Lib.hid rfl, Lib.hid (List.Perm.refl _), h0, Below.refl _ _⟩
  case round =>
    clear h0 hst x1 x2
    obtain ⟨i, j, D2, rfl, rfl, hb2, hr, hP, hW, HB⟩ := hrel
    obtain ⟨p, hp⟩ : ∃ p, m - i = p := ⟨_, rfl⟩
    have y1 : IntKind.i64.wrap ((m : Int) - (i : Int)) = (p : Int) := by rw [IntWalk.i64_in _ (by omega)]; omega
    by_cases heq : i = j
    · subst heq
      have HS := Lib.hid (swapR_any p m i cv base g cap n D2 wr hn (Nat.le_trans hbs HB.size) (by omega) (by omega) (by omega) hW.out)
      clear hp hW
      go_wp2_with fail
      refine HS.out.mono ?_
      rintro e w1 ⟨rfl, D3, q1, q2, q3⟩
      have hfin : Hid (PmR base g cap n D w w1) := Lib.hid ⟨D3, q1.trans hP.out, q2, HB.trans q3⟩
      clear q1 q2 q3 HS
      go_wp2_with fail
      go_end0
      exact ⟨rfl, hfin.out⟩
    have g1' : ((i : Int) != (j : Int)) = true := by simp; omega
    by_cases hlt : j < i
    · obtain ⟨i2, hi2⟩ : ∃ i2, i - j = i2 := ⟨_, rfl⟩
      have y2 : IntKind.i64.wrap ((i : Int) - (j : Int)) = (i2 : Int) := by rw [IntWalk.i64_in _ (by omega)]; omega
      have g2' : decide ((j : Int) < (i : Int)) = true := decide_eq_true (by omega)
      have HS := Lib.hid (swapR_any p m j cv base g cap n D2 wr hn (Nat.le_trans hbs HB.size) (by omega) (by omega) (by omega) hW.out)
      have hb3 : 1 ≤ i2 ∧ i2 ≤ m ∧ 1 ≤ j ∧ m + j ≤ n := by omega
      have hme : i2 + j < i + j := by omega
      clear hp hi2 hW
      go_wp2_with fail
      refine HS.out.mono ?_
      rintro e w1 ⟨rfl, D3, q1, q2, q3⟩
      have hP3 := Lib.hid (q1.trans hP.out)
      have hW3 := Lib.hid q2
      replace HB := HB.trans q3
      clear q1 q2 q3 HS hP
      go_wp2_with fail
      go_roundg (i2 + j)
      case measure => have := hr.out; omega
      case rel => exact ⟨i2, j, D3, rfl, rfl, hb3, Lib.hid rfl, hP3, hW3, HB⟩
    · obtain ⟨j2, hj2⟩ : ∃ j2, j - i = j2 := ⟨_, rfl⟩
      obtain ⟨q, hq⟩ : ∃ q, m + j = q := ⟨_, rfl⟩
      obtain ⟨q', hq'⟩ : ∃ q', q - i = q' := ⟨_, rfl⟩
      have y2 : IntKind.i64.wrap ((j : Int) - (i : Int)) = (j2 : Int) := by rw [IntWalk.i64_in _ (by omega)]; omega
      have y3 : IntKind.i64.wrap ((m : Int) + (j : Int)) = (q : Int) := by rw [IntWalk.i64_in _ (by omega)]; omega
      have y4 : IntKind.i64.wrap ((q : Int) - (i : Int)) = (q' : Int) := by rw [IntWalk.i64_in _ (by omega)]; omega
      have g2' : decide ((j : Int) < (i : Int)) = false := decide_eq_false (by omega)
      have HS := Lib.hid (swapR_any p q' i cv base g cap n D2 wr hn (Nat.le_trans hbs HB.size) (by omega) (by omega) (by omega) hW.out)
      have hb3 : 1 ≤ i ∧ i ≤ m ∧ 1 ≤ j2 ∧ m + j2 ≤ n := by omega
      have hme : i + j2 < i + j := by omega
      clear hp hj2 hq hq' hW
      go_wp2_with fail
      refine HS.out.mono ?_
      rintro e w1 ⟨rfl, D3, q1, q2, q3⟩
      have hP3 := Lib.hid (q1.trans hP.out)
      have hW3 := Lib.hid q2
      replace HB := HB.trans q3
      clear q1 q2 q3 HS hP
      go_wp2_with fail
      go_roundg (i + j2)
      case measure => have := hr.out; omega
      case rel => exact ⟨i, j2, D3, rfl, rfl, hb3, Lib.hid rfl, hP3, hW3, HB⟩
end Go.Proofs.YtjlkbmaigcgnbaaDoor
