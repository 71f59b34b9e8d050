/- lorry's search: the object, the loads; what a visit leaves; a visit that is pruned, or at the end. -/
import Derived.Test.YtjlkbmaigcgnbaaDoorBJ19
import Derived.Test.YtjlkbmaigcgnbaaDoorBJ20
import Derived.Test.YtjlkbmaigcgnbaaDoorBJ21
import Derived.Test.YtjlkbmaigcgnbaaDoorBJ11
import Derived.WalkSpells
set_option linter.unusedVariables false
namespace Go.Proofs.YtjlkbmaigcgnbaaDoor
open Go.ChangeShapes Go.WideShapes Go.ChangeAt Go.RowKit
structure LdX (S : Nat) (w : World) (L : List (List Nat)) (ms : List Int) (vo vm : Value) (cs : List Value) : Prop where
  o : w.ownsRow (S + 1) 42 1 vo cs.length cs
  m : w.ownsRow (S + 1) 3 1 vm ms.length (intV ms)
  n : cs.length = L.length
  nm : ms.length = L.length
  each : ∀ j (h1 : j < cs.length) (h2 : j < L.length), IntS S w cs[j] L[j].length
  om : Dj vo.ownBlock vm.ownBlock
  ov : ∀ j (h1 : j < cs.length), Dj vo.ownBlock cs[j].ownBlock
  mv : ∀ j (h1 : j < cs.length), Dj vm.ownBlock cs[j].ownBlock
structure VisR (S : Nat) (vo vm : Value) (cs : List Value) (w w' : World) : Prop where
  bel : Below S w w'
  far : ∀ b, S < b → b < w.heap.size → vo.ownBlock ≠ some b → vm.ownBlock ≠ some b → (∀ j (h : j < cs.length), cs[j].ownBlock ≠ some b) → w'.heap[b]? = w.heap[b]?
  keep : KeepI w w'
def BestV (bv : Value) : Fnd → Prop
  | none => bv = .slice none 0 0
  | some b => ∃ g c, bv = .slice (some ⟨g, 0, none⟩) b.length c ∧ b.length ≤ 1000
def SubC (w : World) (cs cs' : List Value) : Prop := ∀ j (h : j < cs'.length) b, cs'[j].ownBlock = some b → (∃ i, ∃ h2 : i < cs.length, cs[i].ownBlock = some b) ∨ w.heap.size ≤ b
def ObjS (w : World) (S : Nat) (fl fo : Value) (most : Int) (bv : Value) (best : Fnd) : Prop := At w S 78 #[fl, fo, .int .i64 most, bv] ∧ BestV bv best
def VisE (S : Nat) (fl fo : Value) (most : Int) (L : List (List Nat)) (ms : List Int) (vo vm : Value) (cs : List Value) (w : World) (best : Fnd) (w' : World) : Prop := ∃ bv cs', ObjS w' S fl fo most bv best ∧ LdX S w' L ms vo vm cs' ∧ VisR S vo vm cs w w' ∧ SubC w cs cs'
section
variable {S : Nat} {w w' : World} {L : List (List Nat)} {ms : List Int} {vo vm : Value} {cs : List Value}
theorem LdX.keep (h : LdX S w L ms vo vm cs) (hk : KeepI w w') (ho : ∀ b, S < b → b < w.heap.size → vo.ownBlock = some b → w'.heap[b]? = w.heap[b]?) (hm : ∀ b, S < b → b < w.heap.size → vm.ownBlock = some b → w'.heap[b]? = w.heap[b]?) : LdX S w' L ms vo vm cs where
  o := own_keep h.o fun b hv => ho b (own_lt h.o hv).2 (own_lt h.o hv).1 hv
  m := own_keep h.m fun b hv => hm b (own_lt h.m hv).2 (own_lt h.m hv).1 hv
  n := h.n
  nm := h.nm
  each := fun j h1 h2 => (h.each j h1 h2).keep hk
  om := h.om
  ov := h.ov
  mv := h.mv
theorem LdX.up (h : LdX S w L ms vo vm cs) (hb : Below w.heap.size w w') : LdX S w' L ms vo vm cs := h.keep (KeepI.bel hb) (fun b _ hlt _ => hb.block b hlt) (fun b _ hlt _ => hb.block b hlt)
theorem LdX.lt (h : LdX S w L ms vo vm cs) {j b : Nat} (h1 : j < cs.length) (hb : cs[j].ownBlock = some b) : b < w.heap.size ∧ S < b := (h.each j h1 (by rw [← h.n]; exact h1)).lt hb
theorem VisR.refl : VisR S vo vm cs w w := ⟨Below.refl _ _, fun _ _ _ _ _ _ => rfl, KeepI.refl _⟩
theorem ObjS.not_int {fl fo : Value} {most : Int} {bv : Value} {best : Fnd} (h : ObjS w S fl fo most bv best) (cap : Nat) : ¬ IntB w S cap := fun ⟨zs, _, hz⟩ => by
  have h1 := h.1
  unfold At at h1
  rw [h1] at hz
  injection hz with hz
  injection hz with _ hz
  revert hz
  decide
theorem SubC.refl : SubC w cs cs := fun j h b hb => .inl ⟨j, h, hb⟩
theorem VisR.grown {fl fo : Value} {most : Int} {bv : Value} {best : Fnd} (h : ObjS w S fl fo most bv best) (hg : w.grownBy w' (some S)) : VisR S vo vm cs w w' := by
  have hS := h.1.lt
  exact ⟨⟨hg.os, hg.tape, hg.output, hg.size, fun b hb => hg.block b (by omega) (fun e => by injection e with e; omega)⟩, fun b h1 h2 _ _ _ => hg.block b h2 (fun e => by injection e with e; omega), KeepI.grown hg fun g cap e => by injection e with e; subst e; exact h.not_int cap⟩
theorem LdX.grown {fl fo : Value} {most : Int} {bv : Value} {best : Fnd} (h : LdX S w L ms vo vm cs) (ho : ObjS w S fl fo most bv best) (hg : w.grownBy w' (some S)) : LdX S w' L ms vo vm cs :=
  h.keep (VisR.grown (vo := vo) (vm := vm) (cs := cs) ho hg).keep (fun b h1 h2 _ => hg.block b h2 (fun e => by injection e with e; omega)) (fun b h1 h2 _ => hg.block b h2 (fun e => by injection e with e; omega))
theorem LdX.cell (h : LdX S w L ms vo vm cs) {j : Nat} (hj : j < L.length) : ∃ g co a c, vo = .slice (some ⟨g, 0, none⟩) L.length co ∧ L.length ≤ co ∧ S < g ∧ g < w.heap.size ∧ w.cell? ⟨g, j, none⟩ = some (.slice a L[j].length c) ∧ w.frozen? ⟨g, j, none⟩ = false ∧ L[j].length ≤ c ∧ c ≤ maxLen ∧ ∃ h2 : j < cs.length, cs[j] = .slice a L[j].length c ∧ IntS S w (.slice a L[j].length c) L[j].length := by
  have h2 : j < cs.length := by rw [h.n]; exact hj
  obtain ⟨g, co, e, h3, h4, h5, h6, h7, h8⟩ := own_some h.o (by omega)
  obtain ⟨a, c, e2, h9, h10⟩ := (h.each j h2 hj).slice
  have h11 := h.each j h2 hj
  rw [e2] at h11
  exact ⟨g, co, a, c, by rw [← h.n]; exact e, by rw [← h.n]; exact h3, h5, h6, by rw [h8 j _ (List.getElem?_eq_getElem h2), e2], h7 j, h9, h10, h2, e2, h11⟩
theorem LdX.mass (h : LdX S w L ms vo vm cs) {j : Nat} (hj : j < L.length) : ∃ g c, vm = .slice (some ⟨g, 0, none⟩) L.length c ∧ S < g ∧ g < w.heap.size ∧ w.frozen? ⟨g, j, none⟩ = false ∧ ∃ h2 : j < ms.length, w.cell? ⟨g, j, none⟩ = some (.int .i64 ms[j]) := by
  have h2 : j < ms.length := by rw [h.nm]; exact hj
  obtain ⟨g, co, e, h3, h4, h5, h6, h7, h8⟩ := own_some h.m (by omega)
  exact ⟨g, co, by rw [← h.nm]; exact e, h5, h6, h7 j, h2, h8 j _ (by unfold intV; rw [List.getElem?_map, List.getElem?_eq_getElem h2]; rfl)⟩
end
theorem BestV.nil {bv : Value} {best : Fnd} (h : BestV bv best) : (best = none ∧ bv = .slice none 0 0) ∨ ∃ b g c, best = some b ∧ bv = .slice (some ⟨g, 0, none⟩) b.length c ∧ b.length ≤ 1000 := by
  cases best with
  | none => exact .inl ⟨rfl, h⟩
  | some b => obtain ⟨g, c, e, h⟩ := h; exact .inr ⟨b, g, c, rfl, e, h⟩
theorem grownS_bel {w w1 w2 : World} {r : Option Nat} (h : w.grownBy w1 r) (hb : Below w1.heap.size w1 w2) : w.grownBy w2 r :=
  ⟨hb.os.trans h.os, hb.tape.trans h.tape, hb.output.trans h.output, Nat.le_trans h.size hb.size, fun k hk hne => (hb.block k (Nat.lt_of_lt_of_le hk h.size)).trans (h.block k hk hne)⟩
theorem cloneI_any (S n : Nat) (v : Value) (w : World) (h : IntS S w v n) (hn : n ≤ 1000) : Calls Tryd.prog 49 #[v] w fun e w' => (∃ a c, e = .returned (.slice a n c)) ∧ Below w.heap.size w w' := by
  obtain ⟨rfl, rfl⟩ | ⟨g, cap, rfl, h1, h2, h3, zs, h4, h5⟩ := h
  · refine (Tryd.slices_Clone_int_nil 0 0 w).mono ?_
    rintro e w' ⟨rfl, rfl⟩
    exact ⟨⟨_, _, rfl⟩, Below.refl _ _⟩
  · refine (Tryd.slices_Clone_int g 0 n cap zs w (by omega) (by omega) (fun j hj => ?_)).mono ?_
    · rw [Nat.zero_add, cell_of_row w g j _ _ _ h5]
      simp [intV, List.getElem?_map, List.getElem?_eq_getElem hj]
    · rintro e w' ⟨v', rfl, h6, _, h7⟩
      obtain ⟨a, c, rfl⟩ := own_slice h6
      exact ⟨⟨a, c, rfl⟩, h7⟩
set_option maxRecDepth 100000 in
set_option maxHeartbeats 2000000 in
theorem visP_any (S k : Nat) (fl : Value) (oa : Option Addr) (n oc : Nat) (most : Int) (L : List (List Nat)) (ms : List Int) (vo vm : Value) (cs : List Value) (best : Fnd) (bv : Value) (w : World) (hA : ObjS w S fl (.slice oa n oc) most bv best) (hL : LdX S w L ms vo vm cs) (hp : prunB L best = true) :
    Calls Tryd.prog 32 #[.pointer (some ⟨S, 0, none⟩), .int .i64 (k : Int), vo, vm] w fun e w' => e = .returned (.tuple #[]) ∧ VisE S fl (.slice oa n oc) most L ms vo vm cs w best w' := by
  have hfin : Hid (VisE S fl (.slice oa n oc) most L ms vo vm cs w best w) := Lib.hid ⟨bv, cs, hA, hL, VisR.refl, SubC.refl⟩
  obtain ⟨hA, hb⟩ := hA
  rcases hb.nil with ⟨rfl, -⟩ | ⟨b, g, c, rfl, rfl, hbl⟩
  · cases hp
  have x3 : w.cell? ⟨S, 3, none⟩ = some (.slice (some ⟨g, 0, none⟩) b.length c) := hA.c 3
  have hle : b.length ≤ L.length := by unfold prunB at hp; simpa using hp
  obtain ⟨ao, co, hvo⟩ := own_slice hL.o
  rw [hL.n] at hvo
  subst hvo
  obtain ⟨q, hq⟩ : ∃ q, L.length = q := ⟨_, rfl⟩
  obtain ⟨z, hz⟩ : ∃ z, b.length = z := ⟨_, rfl⟩
  rw [hq] at hle hfin ⊢
  rw [hz] at x3 hle hbl
  clear hp hL hb hq hz hA
  have qT : ∀ (w : World) (a : Option Addr) (n c n' c' : Nat), (binOp .neq 35 (.slice a n c) (.slice none n' c')).run Tryd.prog w = .ok (.bool (!a.isNone)) w := fun w a n c n' c' => run_neq_slice_nil_any w _ _ a n c n' c' Tryd.underlying35
  go_enter Tryd.func32, Tryd.ntmps32
  go_wp2_with fail
  exact bodyPost_ret (v := .tuple #[]) (by simp [results, Tryd.results32, go_sem]) rfl ⟨rfl, hfin.out⟩
set_option maxRecDepth 100000 in
set_option maxHeartbeats 2000000 in
theorem visL_any (S : Nat) (fl : Value) (oa : Option Addr) (n oc : Nat) (most : Int) (L : List (List Nat)) (ms : List Int) (vo vm : Value) (cs : List Value) (best : Fnd) (bv : Value) (w : World) (hA : ObjS w S fl (.slice oa n oc) most bv best) (hL : LdX S w L ms vo vm cs) (hp : prunB L best = false) (h0 : 0 < L.length) (hq : L.length ≤ 1000) (hls : ∀ ld ∈ L, ld.length ≤ 1000) :
    Calls Tryd.prog 32 #[.pointer (some ⟨S, 0, none⟩), .int .i64 (n : Int), vo, vm] w fun e w' => e = .returned (.tuple #[]) ∧ VisE S fl (.slice oa n oc) most L ms vo vm cs w (some L) w' := by
  obtain ⟨j0, hj, hj0, hj1, hj2⟩ := info_parts infoIS
  have hSlt := hA.1.lt
  have hfin : Hid (∀ w' bv', w.grownBy w' (some S) → At w' S 78 #[fl, .slice oa n oc, .int .i64 most, bv'] → BestV bv' (some L) → VisE S fl (.slice oa n oc) most L ms vo vm cs w (some L) w') := Lib.hid fun w' bv' hg h1 h2 => ⟨bv', cs, ⟨h1, h2⟩, hL.grown hA hg, VisR.grown hA hg, SubC.refl⟩
  have hAt := hA.1
  have hcell := Lib.hid (fun (j : Nat) (hj : j < L.length) => hL.cell hj)
  have hClo : Hid (∀ (j : Nat) (hj : j < L.length) (a : Option Addr) (c : Nat), (∃ h2 : j < cs.length, cs[j] = .slice a L[j].length c) → ∀ W, w.grownBy W (some S) → Calls Tryd.prog 49 #[.slice a L[j].length c] W fun e w' => (∃ a' c', e = .returned (.slice a' L[j].length c')) ∧ Below W.heap.size W w') := Lib.hid fun j hj a c ⟨h2, e⟩ W hW => by
    have h3 := hL.each j h2 hj
    rw [e] at h3
    exact cloneI_any S _ _ W (h3.keep (VisR.grown (vo := vo) (vm := vm) (cs := cs) hA hW).keep) (hls _ (List.getElem_mem hj))
  have hgrc : Hid (∀ W j, w.grownBy W (some S) → ∀ (hj : j < L.length), ∃ g co a c, vo = .slice (some ⟨g, 0, none⟩) L.length co ∧ W.cell? ⟨g, j, none⟩ = some (.slice a L[j].length c) ∧ ∃ h2 : j < cs.length, cs[j] = .slice a L[j].length c) := Lib.hid fun W j hW hj => by
    obtain ⟨g, co, a, c, e, -, hSg, hgl, hc, -, -, -, h2, e2, -⟩ := hL.cell hj
    refine ⟨g, co, a, c, e, ?_, h2, e2⟩
    rw [← hc]
    unfold World.cell?
    rw [hW.block g hgl (fun e => by injection e with e; omega)]
  have hbest := hA.2.nil
  have hpr := hp
  obtain ⟨ao, co, hvo⟩ := own_slice hL.o
  rw [hL.n] at hvo
  subst hvo
  obtain ⟨q, hq'⟩ : ∃ q, L.length = q := ⟨_, rfl⟩
  rw [hq'] at hq h0 hfin ⊢
  replace hq' := Lib.hid hq'
  have x1 : w.cell? ⟨S, 1, none⟩ = some (.slice oa n oc) := hAt.c 1
  have x3 : w.cell? ⟨S, 3, none⟩ = some bv := hAt.c 3
  have f3 : w.frozen? ⟨S, 3, none⟩ = false := hAt.f 3
  have hAt0 := Lib.hid hAt
  have hw0 : w.grownBy (w.setCell ⟨S, 3, none⟩ (.slice none 0 0)) (some S) := ⟨rfl, rfl, rfl, by simp, fun k hk hne => heap_setCell_other w _ k _ (fun e => hne (by rw [e]))⟩
  have hA0 : Hid (At (w.setCell ⟨S, 3, none⟩ (.slice none 0 0)) S 78 #[fl, .slice oa n oc, .int .i64 most, .slice none 0 0]) := Lib.hid (hAt.put 3 _)
  have qT : ∀ (w : World) (a : Option Addr) (n c n' c' : Nat), (binOp .neq 35 (.slice a n c) (.slice none n' c')).run Tryd.prog w = .ok (.bool (!a.isNone)) w := fun w a n c n' c' => run_neq_slice_nil_any w _ _ a n c n' c' Tryd.underlying35
  have hbv : Hid (bv = .slice none 0 0 ∨ ∃ g z c, bv = .slice (some ⟨g, 0, none⟩) z c ∧ q < z ∧ z ≤ 1000) := Lib.hid (by
    rcases hbest with ⟨-, e⟩ | ⟨b, g, c, e1, e2, e3⟩
    · exact .inl e
    · refine .inr ⟨g, b.length, c, e2, ?_, e3⟩
      rw [e1] at hpr
      unfold prunB at hpr
      simp at hpr
      rw [← hq'.out]
      exact hpr)
  clear hL hA hp hAt hls hbest hpr
  go_enter Tryd.func32, Tryd.ntmps32
  go_upto_region 0 with fail
  go_cut [28] from 14 to 28 (fun v wx => v = .bool false ∧ w = wx)
  case first =>
    rcases hbv.out with rfl | ⟨g, z, c, rfl, h1, h2⟩
    · go_wp2_with fail
      go_meet
      exact ⟨rfl, rfl⟩
    · have g1 : decide ((z : Int) ≤ (q : Int)) = false := decide_eq_false (by omega)
      go_wp2_with fail
      go_meet
      exact ⟨by first | rfl | (rw [decide_eq_false (by omega)]; done), rfl⟩
  case rest =>
    clear hbv
    obtain ⟨rfl, rfl⟩ := hcut
    go_wp2_with fail
    generalize hWW : World.setCell w _ _ = W0 at hw0 hA0 ⊢
    clear hWW x1 x3 f3
    go_loopg [41] q (fun g1 i wr => ∃ (j : Nat) (bj : Value) (xs : List Value), j ≤ q ∧ i = .int .i64 (j : Int) ∧ Hid (g1 = q - j) ∧ Hid (w.grownBy wr (some S)) ∧ Hid (At wr S 78 #[fl, .slice oa n oc, .int .i64 most, bj]) ∧ Hid (wr.ownsRow w.heap.size 42 1 bj j xs))
    case atStart => exact ⟨0, _, [], Nat.zero_le _, rfl, Lib.hid rfl, Lib.hid hw0, hA0, Lib.hid (World.ownsRow_nil _ _ _ _)⟩
    case round =>
      clear hw0 hA0
      obtain ⟨j, bj, xs, hjq, rfl, hr, hG, hAt, ho⟩ := hrel
      by_cases hlt : j < q
      · have hjl : Hid (j < L.length) := Lib.hid (by rw [hq'.out]; exact hlt)
        obtain ⟨g, co2, a, c, e, c0, hcs⟩ := hgrc.out wr j hG.out hjl.out
        injection e with e1 e2 e3
        subst e1 e3
        have hCk := Lib.hid (fun W (hW : w.grownBy W (some S)) => hClo.out j hjl.out a c hcs W hW)
        obtain ⟨z, hz⟩ : ∃ z, (L[j]'hjl.out).length = z := ⟨_, rfl⟩
        rw [hz] at c0 hCk
        clear hz hcs
        have x3 : wr.cell? ⟨S, 3, none⟩ = some bj := hAt.out.c 3
        have hS2 := hAt.out.lt
        have hCk2 := Lib.hid (fun W (hW : Below wr.heap.size wr W) => hCk.out W (grownS_bel hG.out hW))
        have hAft : Hid (∀ W w2, Below wr.heap.size wr W → Below W.heap.size W w2 → w2.cell? ⟨S, 3, none⟩ = some bj ∧ (∀ o, (w2.alloc o).cell? ⟨S, 3, none⟩ = some bj) ∧ Hid (Below wr.heap.size wr w2) ∧ Hid (w2.ownsRow w.heap.size 42 1 bj j xs)) := Lib.hid fun W w2 h1 h2 => by
          have h3 := below_then h1 h2
          exact ⟨cell_up h3 x3, fun o => cell_up (below_al h3 o) x3, Lib.hid h3, Lib.hid (World.ownsRow_up ho.out h3)⟩
        have hPu : Hid (∀ Wa w5 g5 c5 (u : Value), Below wr.heap.size wr Wa → w5.ownsRow w.heap.size 42 1 (.slice g5 (j + 1) c5) (j + 1) (xs ++ [u]) → Wa.grownBy w5 bj.ownBlock → w5.cell? ⟨S, 3, none⟩ = some bj ∧ w5.frozen? ⟨S, 3, none⟩ = false ∧ Hid (w.grownBy (w5.setCell ⟨S, 3, none⟩ (.slice g5 (j + 1) c5)) (some S)) ∧ Hid (At (w5.setCell ⟨S, 3, none⟩ (.slice g5 (j + 1) c5)) S 78 #[fl, .slice oa n oc, .int .i64 most, .slice g5 (j + 1) c5]) ∧ Hid ((w5.setCell ⟨S, 3, none⟩ (.slice g5 (j + 1) c5)).ownsRow w.heap.size 42 1 (.slice g5 (j + 1) c5) (j + 1) (xs ++ [u]))) := Lib.hid fun Wa w5 g5 c5 u h1 h2 h3 => by
          have hSb : some S ≠ bj.ownBlock := fun e => by have := (own_lt ho.out e.symm).2; omega
          have hSW := hAt.out.bel h1
          have hS5 : At w5 S 78 #[fl, .slice oa n oc, .int .i64 most, bj] := (h3.block S hSW.lt hSb).trans hSW
          have hG1 := grownS_bel hG.out h1
          refine ⟨hS5.c 3, hS5.f 3, Lib.hid ⟨h3.os.trans hG1.os, h3.tape.trans hG1.tape, h3.output.trans hG1.output, by simp; exact Nat.le_trans hG1.size h3.size, fun k hk hne => ?_⟩, Lib.hid (hS5.put 3 _), Lib.hid (ownsRow_setCell_other h2 (fun e => ?_) _)⟩
          · rw [heap_setCell_other w5 _ k _ (fun e => hne (by rw [e]))]
            exact (h3.block k (Nat.lt_of_lt_of_le hk hG1.size) (fun e => by have := (own_lt ho.out e.symm).2; omega)).trans (hG1.block k hk hne)
          · have := (own_lt h2 e).2
            simp at this
            omega
        have hwr := Lib.hid hG.out.size
        clear hCk hG hAt hgrc
        go_upto_region 6 with fail
        go_region_law (first
          | (go_simp; go_at_call 49; refine (hCk2.out _ (by first | exact below_drew (Below.refl _ _) | exact Below.refl _ _)).mono ?_; rintro e w2 ⟨⟨a', c', rfl⟩, hb2⟩; obtain ⟨x3b, x3c, hB2, ho2⟩ := hAft.out _ w2 (by first | exact below_drew (Below.refl _ _) | exact Below.refl _ _) hb2; clear hb2)
          | (refine step_append_at _ rfl (.tmp 49) (.tmp 52) 35 rfl w.heap.size 42 j0 (.slice none 0 0) 1 24 Tryd.underlying35 hj hj0 hj1 hj2 rfl (by decide) bj j xs (by simp [Act.eval]) (by first | exact World.ownsRow.alloc ho2.out _ | exact World.ownsRow.drew (World.ownsRow.alloc ho2.out _)) ⟨w2.heap.size, 0, none⟩ 1 1 [.slice a' z c'] (by simp [Act.eval]) rfl (cell_one_new _ _ _) (by intro u hu; simp at hu; subst hu; rfl) (by unfold maxLen; omega) (by omega) (by have := hB2.out.size; have := hwr.out; simp; omega) ?_; intro g5 c5 w5 ho5 hg5 hl5; obtain ⟨d3, f5, hG5, hA5, ho6⟩ := hPu.out _ w5 g5 c5 _ (by first | exact below_al hB2.out _ | exact below_drew (below_al hB2.out _)) ho5 hg5; clear ho5 hg5 hl5))
        all_goals
          generalize hWW : World.setCell w5 _ _ = W6 at hG5 hA5 ho6 ⊢
          clear hWW d3 f5 hPu hAft hCk2
          go_wp2_with fail
          go_roundg (q - (j + 1))
          case measure => have := hr.out; omega
          case rel => exact ⟨j + 1, _, _, by omega, by go_num, Lib.hid rfl, hG5, hA5, ho6⟩
      · have hjq2 : j = q := by omega
        have hBv : Hid (BestV bj (some L)) := Lib.hid (by
          obtain ⟨g, cap, e, -⟩ := own_some ho.out (by omega)
          exact ⟨g, cap, by rw [hq'.out, ← hjq2]; exact e, by rw [hq'.out]; exact hq⟩)
        have hE := Lib.hid (hfin.out wr bj hG.out hAt.out hBv.out)
        go_wp2_with fail
        exact bodyPost_ret (v := .tuple #[]) (by simp [results, Tryd.results32, go_sem]) rfl ⟨rfl, hE.out⟩
end Go.Proofs.YtjlkbmaigcgnbaaDoor
