import Derived.Test.YtccakklnbhcbdaaGreatDoorFL
import Derived.Test.YtccakklnbhcbdaaGreatDoorFSoN
import Derived.Test.YtccakklnbhcbdaaGreatDoorFP
import Derived.Test.YtccakklnbhcbdaaGreatDoorFSoQ
import Derived.Test.YtccakklnbhcbdaaGreatDoorFT
import Derived.Test.YtccakklnbhcbdaaGreatDoorFSoU
import Derived.Laws.Tables
import Derived.Laws.CopyRow
import Derived.Deep.MidRow
import Derived.Deep.RegionHeld3
import Derived.Test.YtccakklnbhcbdaaGreatDoorFA
set_option linter.unusedVariables false
namespace Go.Proofs.YtccakklnbhcbdaaGreatDoor
open Go.ChangeShapes Go.WideShapes Go.ChangeAt Go.RowKit
theorem other_any (w : World) (R : Nat) (ts : List Tk) (s : Rd) (p : PV) (h : RdW w R ts s p) (hi : s.i < ts.length) (hE : Ends ts) (he : EnvR R w) (hm : manyD s.d ≤ 1000000) :
  Calls Tryz.prog 96 #[.pointer (some ⟨R, 0, none⟩)] w (OthE ts R w (otherT ts s)) := by
 unfold otherT
 by_cases hk : (tk ts s.i).kind = 1
 rotate_left
 ·have : wordOk (tk ts s.i) s = false := by unfold wordOk; rw [decide_eq_false hk]; rfl
  rw [this, if_neg (by decide)]
  exact other_kind w R ts s p h hi hE hk
 by_cases xbox : (tk ts s.i).text = wBox
 ·have : wordOk (tk ts s.i) s = true := by
   unfold wordOk
   rw [xbox, decide_eq_true hk, decide_eq_false (show ¬ wBox = wRule by decide), decide_eq_false (show ¬ wBox = wStep by decide)]
   simp
   decide
  rw [this, if_pos rfl, xbox]
  exact other_box w R ts s p h hi hE he hm hk xbox
 by_cases xhole : (tk ts s.i).text = wHole
 ·have : wordOk (tk ts s.i) s = true := by
   unfold wordOk
   rw [xhole, decide_eq_true hk, decide_eq_false (show ¬ wHole = wRule by decide), decide_eq_false (show ¬ wHole = wStep by decide)]
   simp
   decide
  rw [this, if_pos rfl, xhole]
  exact other_hole w R ts s p h hi hE he hm hk xhole
 by_cases xrule : (tk ts s.i).text = wRule
 ·by_cases hc : s.ruled = true
  ·have : wordOk (tk ts s.i) s = false := by unfold wordOk; rw [xrule, hc]; simp
   rw [this, if_neg (by decide)]
   exact other_ruled w R ts s p h hi hE hk xrule hc
  ·have : wordOk (tk ts s.i) s = true := by
    unfold wordOk
    rw [xrule, decide_eq_true hk]
    simp [hc]
    exact ⟨by decide, by first | exact .inl (by decide) | exact .inr (by decide)⟩
   rw [this, if_pos rfl, xrule]
   exact other_rule w R ts s p h hi hE he hm hk xrule (by simpa using hc)
 by_cases xbar : (tk ts s.i).text = wBar
 ·have : wordOk (tk ts s.i) s = true := by
   unfold wordOk
   rw [xbar, decide_eq_true hk, decide_eq_false (show ¬ wBar = wRule by decide), decide_eq_false (show ¬ wBar = wStep by decide)]
   simp
   decide
  rw [this, if_pos rfl, xbar]
  exact other_bar w R ts s p h hi hE he hm hk xbar
 by_cases xrun : (tk ts s.i).text = wRun
 ·have : wordOk (tk ts s.i) s = true := by
   unfold wordOk
   rw [xrun, decide_eq_true hk, decide_eq_false (show ¬ wRun = wRule by decide), decide_eq_false (show ¬ wRun = wStep by decide)]
   simp
   decide
  rw [this, if_pos rfl, xrun]
  exact other_run w R ts s p h hi hE he hm hk xrun
 by_cases xlap : (tk ts s.i).text = wLap
 ·have : wordOk (tk ts s.i) s = true := by
   unfold wordOk
   rw [xlap, decide_eq_true hk, decide_eq_false (show ¬ wLap = wRule by decide), decide_eq_false (show ¬ wLap = wStep by decide)]
   simp
   decide
  rw [this, if_pos rfl, xlap]
  exact other_lap w R ts s p h hi hE he hm hk xlap
 by_cases xdemand : (tk ts s.i).text = wDemand
 ·have : wordOk (tk ts s.i) s = true := by
   unfold wordOk
   rw [xdemand, decide_eq_true hk, decide_eq_false (show ¬ wDemand = wRule by decide), decide_eq_false (show ¬ wDemand = wStep by decide)]
   simp
   decide
  rw [this, if_pos rfl, xdemand]
  exact other_demand w R ts s p h hi hE he hm hk xdemand
 by_cases xstep : (tk ts s.i).text = wStep
 ·by_cases hc : s.d.dems = []
  ·have : wordOk (tk ts s.i) s = false := by unfold wordOk; rw [xstep, hc]; simp
   rw [this, if_neg (by decide)]
   exact other_stepless w R ts s p h hi hE hk xstep hc
  ·have : wordOk (tk ts s.i) s = true := by
    unfold wordOk
    rw [xstep, decide_eq_true hk]
    simp [hc]
    exact ⟨by decide, by first | exact .inl (by decide) | exact .inr (by decide)⟩
   rw [this, if_pos rfl, xstep]
   exact other_step w R ts s p h hi hE he hm hk xstep hc
 ·have hl : leastW (tk ts s.i).text = 0 ∨ (tk ts s.i).text = wMember := by
   unfold leastW
   by_cases hmm : (tk ts s.i).text = wMember
   ·exact .inr hmm
   ·rw [if_neg hmm, if_neg xbox, if_neg xhole, if_neg xdemand, if_neg xrule, if_neg xrun, if_neg xbar, if_neg xlap, if_neg xstep]
    exact .inl rfl
  have : wordOk (tk ts s.i) s = false := by
   unfold wordOk
   rcases hl with hl | hl
   ·rw [hl]; simp
   ·rw [hl]; simp
  rw [this, if_neg (by decide)]
  exact other_none w R ts s p h hi hE hk xbox xhole xrule xbar xrun xlap xdemand xstep
end Go.Proofs.YtccakklnbhcbdaaGreatDoor
set_option linter.unusedVariables false
set_option linter.unusedSimpArgs false
namespace Go.Proofs.YtccakklnbhcbdaaGreatDoor
open Go.ChangeShapes Go.WideShapes Go.ChangeAt Go.RowKit
set_option maxRecDepth 100000 in
set_option maxHeartbeats 1000000 in
theorem catch_idle (p q r : Addr) (w : World) :
  CallsD Tryz.prog 89 #[.pointer (some p), .pointer (some q), .pointer (some r)] .returning w fun e u' w' => e = .returned (.tuple #[]) ∧ u' = .returning ∧ w' = w := by
 refine callsD_of_wpS Tryz.func89 rfl fun c₀ cs hu => ?_
 apply wpS_seq
 apply wpS_region
 simp [wpOpsS, go_sem, recoverD, hu, Tryz.ntmps89, Exit.thenS]
 apply wpS_seq
 apply wpS_region
 simp [wpOpsS, go_sem, Exit.thenS]
 refine wpS_cond (t := false) (by simp [Act.eval, Array.replicate]) ?_
 simp only [Bool.false_eq_true, if_false]
 refine wpS_of_wp (wp_skip ?_)
 cases c₀
 simp_all [bodyPostS, results, Tryz.results89]
theorem step_store_row {P : Program} {ops : Array Oper} {o : Oper} {a : Act} {w : World} {K : Act → World → Prop} {Q : Exit → Act → World → Prop} {E : Prop} (hgd : o.guard = none) (ty : TypeId) (x y : Operand) (ho : o.op = .store ty x y)
  (g : Nat) (cells : Array Value) (hx : a.eval x = .pointer (some ⟨g, 0, none⟩)) (hy : a.eval y = .agg cells) (t : TypeId) (old : Array Value) (hg : At w g t old) (hi : (P.info? ty).map (·.size) = some cells.size)
  (hold : old.size = cells.size) (h1 : cells.all (·.oneCell') = true) (h : K (a.put o.dst undef) (w.setRow g cells)) : if Region.wanted o (yielded ops a.tmps) = true then Oper.wp P o a w K Q else E := by
 have hw : Region.wanted o (yielded ops a.tmps) = true := by simp [Region.wanted, hgd]
 rw [if_pos hw]
 exact wp_store_row ty x y ho g cells hx hy t old hg hi hold h1 h
theorem At.rowSelf {w : World} {g : Nat} {t : TypeId} {cs : Array Value} (h : At w g t cs) : w.setRow g cs = w := setRow_self w g cs t (0, 0) h
theorem step_store_same {P : Program} {ops : Array Oper} {o : Oper} {a : Act} {w : World} {K : Act → World → Prop} {Q : Exit → Act → World → Prop} {E : Prop} (hgd : o.guard = none) (ty : TypeId) (x y : Operand) (ho : o.op = .store ty x y)
  (g : Nat) (cells : Array Value) (hx : a.eval x = .pointer (some ⟨g, 0, none⟩)) (hy : a.eval y = .agg cells) (t : TypeId) (hg : At w g t cells) (hi : (P.info? ty).map (·.size) = some cells.size)
  (h1 : cells.all (·.oneCell') = true) (h : K (a.put o.dst undef) w) : if Region.wanted o (yielded ops a.tmps) = true then Oper.wp P o a w K Q else E :=
 step_store_row hgd ty x y ho g cells hx hy t cells hg hi rfl h1 (by rw [hg.rowSelf]; exact h)
theorem At.ne {w : World} {g : Nat} {t : TypeId} {cs : Array Value} (h : At w g t cs) (p : Addr) (u : Value) (hn : g ≠ p.block) : At (w.setCell p u) g t cs := (Below.heap_setCell w p u g hn).trans h
theorem assert_wrong (L C : Int) (w : World) : (Instr.typeAssert (.iface 133 (.agg #[.int .i64 L, .int .i64 C])) 20 133 true).run Tryz.prog w = .ok (.tuple #[.agg #[.int .i64 L, .int .i64 C], .bool true]) w := by kernel_rfl
theorem wrong_some (L C : Int) (w : World) : (binOp .neq 20 (.iface 133 (.agg #[.int .i64 L, .int .i64 C])) .nilIface).run Tryz.prog w = .ok (.bool true) w := by kernel_rfl
theorem wp_then {P : Program} {c : Code} {Q : Exit → Act → World → Prop} {a : Act} {w : World} (h : ∀ K, Hid (∀ a w, Q .normal a w → K a w) → Code.wp P c (Exit.then K (fun _ _ _ => False)) a w) : Code.wp P c Q a w := by
 intro b k cs
 obtain ⟨e, a', w', hq, r⟩ := h (Q .normal) (Lib.hid fun _ _ h => h) b k cs
 refine ⟨e, a', w', ?_, r⟩
 cases e with
 | normal => exact hq
 | _ => exact hq.elim
theorem wp_tmps {P : Program} {c : Code} {Q : Exit → Act → World → Prop} {t t' : Array Value} {d : List Deferred} {w : World} (e : t = t') (h : Code.wp P c Q { tmps := t', defers := d } w) : Code.wp P c Q { tmps := t, defers := d } w := e ▸ h
def zeroD : Array Value := #[.string ⟨#[]⟩, .slice none 0 0, .slice none 0 0, .int .i64 0, .int .i64 0, .int .i64 0, .slice none 0 0, .slice none 0 0, .slice none 0 0, .slice none 0 0, .int .i64 0, .int .i64 0, .int .i64 0, .int .i64 0, .int .i64 0, .int .i64 0, .int .i64 0, .int .i64 0, .int .i64 0]
set_option maxRecDepth 100000 in
set_option maxHeartbeats 1000000 in
theorem catch_pan (B : Nat) (L C : Int) (w : World) (p0 p1 r0 : Value) (hX : At w B 34 zeroD) (hP : At w (B + 1) 43 #[p0, p1]) (hR : At w (B + 2) 37 #[r0]) (older : List PanicEntry) :
  CallsD Tryz.prog 89 #[.pointer (some ⟨B, 0, none⟩), .pointer (some ⟨B + 1, 0, none⟩), .pointer (some ⟨B + 2, 0, none⟩)] (.panicking ({ v := .iface 133 (.agg #[.int .i64 L, .int .i64 C]), recovered := false } :: older)) w fun e u' w' =>
   e = .returned (.tuple #[]) ∧ u' = .panicking ({ v := .iface 133 (.agg #[.int .i64 L, .int .i64 C]), recovered := true } :: older) ∧ At w' B 34 zeroD ∧ At w' (B + 1) 43 #[.int .i64 L, .int .i64 C] ∧ At w' (B + 2) 37 #[.int .i64 7] ∧ Below B w w' := by
 have h1 := assert_wrong L C
 have h2 := wrong_some L C
 refine callsD_of_wpS Tryz.func89 rfl fun c₀ cs hu => ?_
 apply wpS_seq
 apply wpS_region
 simp [wpOpsS, go_sem, recoverD, hu, Tryz.ntmps89, Exit.thenS]
 refine wpS_of_wp ?_
 apply wp_then
 intro K hK
 replace hu := Lib.hid hu
 refine wp_tmps (t' := #[.pointer (some ⟨B, 0, none⟩), .pointer (some ⟨B + 1, 0, none⟩), .pointer (some ⟨B + 2, 0, none⟩), .iface 133 (.agg #[.int .i64 L, .int .i64 C]), undef, undef, .iface 133 (.agg #[.int .i64 L, .int .i64 C]), undef, undef, undef, undef, undef, undef, undef, undef, undef, undef, undef, undef, undef]) (by simp [Array.replicate]) ?_
 have hl := hR.lt
 have hb0 : B < w.heap.size := by omega
 have hb1 : B + 1 < w.heap.size := by omega
 have hb2 : B ≠ w.heap.size := by omega
 have hb3 : B + 1 ≠ w.heap.size := by omega
 have hb4 : B + 2 ≠ w.heap.size := by omega
 have y0 : w.cell? ⟨B + 1, 0, none⟩ = some p0 := hP.c 0
 have yf0 : w.frozen? ⟨B + 1, 0, none⟩ = false := hP.f 0
 have y1 : w.cell? ⟨B + 1, 1, none⟩ = some p1 := hP.c 1
 have yf1 : w.frozen? ⟨B + 1, 1, none⟩ = false := hP.f 1
 have z0 : w.cell? ⟨B + 2, 0, none⟩ = some r0 := hR.c 0
 have zf : w.frozen? ⟨B + 2, 0, none⟩ = false := hR.f 0
 have hZ : Hid (∀ o, At (w.alloc o).drew B 34 zeroD) := Lib.hid fun o => (hX.al o).drw
 go_wp2_with fail
 refine wp_region_any (by kernel_rfl) ?_
 (try (change wpAny _ _ _ _ _ _ _ (World.drew _)))
 refine wpAny_take (i := 0) (v := ?_) (gt rfl) (by kernel_rfl) (by kernel_rfl) (by kernel_rfl) (fun _ _ _ h => h) (Or.inl ⟨by rfl, ?_⟩) ?_
 rotate_left
 focus (intro w; go_simp; first | done | with_reducible rfl)
 (try simp only [pu, pn, si, s0, sn])
 refine wpAny_take (i := 1) (v := ?_) (gt rfl) (by kernel_rfl) (by kernel_rfl) (by kernel_rfl) (fun _ _ _ h => h) (Or.inl ⟨by rfl, ?_⟩) ?_
 rotate_left
 focus (intro w; go_simp; first | done | with_reducible rfl)
 (try simp only [pu, pn, si, s0, sn])
 refine wpAny_ready (rs := [2, 3]) (by kernel_rfl) (by simp) ?_
 refine AllReady.cons (i := 2) (gt rfl) (fun K hK => ?_) ?_
 ·go_simp
  refine hK _ _ ?_
  clear hK K
  (try simp only [pu, pn, si, s0, sn])
  refine wpAny_ready (rs := [3]) (by kernel_rfl) (by simp) ?_
  refine AllReady.cons (i := 3) (gt rfl) (fun K hK => ?_) ?_
  ·refine step_store_same rfl 34 (.tmp 0) (.tmp 17) rfl B zeroD (by simp [Act.eval]) (by simp [Act.eval, zeroD]) 34 (by repeat (first | exact hX | with_reducible apply At.al | with_reducible apply At.drw)) (by kernel_rfl) (by kernel_rfl) ?_
   refine hK _ _ ?_
   clear hK K
   (try simp only [pu, pn, si, s0, sn])
   refine wpAny_ready (rs := [4]) (by kernel_rfl) (by simp) ?_
   refine AllReady.cons (i := 4) (gt rfl) (fun K hK => ?_) ?_
   ·go_simp
    refine hK _ _ ?_
    clear hK K
    (try simp only [pu, pn, si, s0, sn])
    refine wpAny_ready (rs := [5]) (by kernel_rfl) (by simp) ?_
    refine AllReady.cons (i := 5) (gt rfl) (fun K hK => ?_) ?_
    ·go_simp
     refine hK _ _ ?_
     clear hK K
     (try simp only [pu, pn, si, s0, sn])
     refine wpAny_done (by kernel_rfl) ?_ _
     show K _ _
     refine hK.out _ _ ?_
     refine ⟨rfl, _, rfl, .tuple #[], by simp [results, Tryz.results89], rfl, rfl, ?_, ?_, ?_, ?_⟩
     ·exact ((((hX.ne ⟨B + 1, 0, none⟩ _ (by simp)).ne ⟨B + 1, 1, none⟩ _ (by simp)).ne ⟨B + 2, 0, none⟩ _ (by simp)).al _).drw
     ·have := (((hP.put 0 (.int .i64 L)).put 1 (.int .i64 C)).ne ⟨B + 2, 0, none⟩ (.int .i64 7) (by simp)).al (.cells #[.int .i64 L, .int .i64 C] 133)
      exact At.drw (by simpa using this)
     ·have := (((hR.ne ⟨B + 1, 0, none⟩ (.int .i64 L) (by simp)).ne ⟨B + 1, 1, none⟩ (.int .i64 C) (by simp)).put 0 (.int .i64 7)).al (.cells #[.int .i64 L, .int .i64 C] 133)
      exact At.drw (by simpa using this)
     ·exact (below_sc (below_sc (below_sc (Below.refl B w) (by omega) 0 _) (by omega) 1 _) (by omega) 0 _).trans (((below_drew (below_al (Below.refl _ _) _))).mono (by simp [World.setCell]; omega))
    exact AllReady.nil
   exact AllReady.nil
  exact AllReady.nil
 refine AllReady.cons (i := 3) (gt rfl) (fun K hK => ?_) ?_
 ·refine step_store_same rfl 34 (.tmp 0) (.tmp 17) rfl B zeroD (by simp [Act.eval]) (by simp [Act.eval, zeroD]) 34 (by repeat (first | exact hX | with_reducible apply At.al | with_reducible apply At.drw)) (by kernel_rfl) (by kernel_rfl) ?_
  refine hK _ _ ?_
  clear hK K
  (try simp only [pu, pn, si, s0, sn])
  refine wpAny_ready (rs := [2]) (by kernel_rfl) (by simp) ?_
  refine AllReady.cons (i := 2) (gt rfl) (fun K hK => ?_) ?_
  ·go_simp
   refine hK _ _ ?_
   clear hK K
   (try simp only [pu, pn, si, s0, sn])
   refine wpAny_ready (rs := [4]) (by kernel_rfl) (by simp) ?_
   refine AllReady.cons (i := 4) (gt rfl) (fun K hK => ?_) ?_
   ·go_simp
    refine hK _ _ ?_
    clear hK K
    (try simp only [pu, pn, si, s0, sn])
    refine wpAny_ready (rs := [5]) (by kernel_rfl) (by simp) ?_
    refine AllReady.cons (i := 5) (gt rfl) (fun K hK => ?_) ?_
    ·go_simp
     refine hK _ _ ?_
     clear hK K
     (try simp only [pu, pn, si, s0, sn])
     refine wpAny_done (by kernel_rfl) ?_ _
     show K _ _
     refine hK.out _ _ ?_
     refine ⟨rfl, _, rfl, .tuple #[], by simp [results, Tryz.results89], rfl, rfl, ?_, ?_, ?_, ?_⟩
     ·exact ((((hX.ne ⟨B + 1, 0, none⟩ _ (by simp)).ne ⟨B + 1, 1, none⟩ _ (by simp)).ne ⟨B + 2, 0, none⟩ _ (by simp)).al _).drw
     ·have := (((hP.put 0 (.int .i64 L)).put 1 (.int .i64 C)).ne ⟨B + 2, 0, none⟩ (.int .i64 7) (by simp)).al (.cells #[.int .i64 L, .int .i64 C] 133)
      exact At.drw (by simpa using this)
     ·have := (((hR.ne ⟨B + 1, 0, none⟩ (.int .i64 L) (by simp)).ne ⟨B + 1, 1, none⟩ (.int .i64 C) (by simp)).put 0 (.int .i64 7)).al (.cells #[.int .i64 L, .int .i64 C] 133)
      exact At.drw (by simpa using this)
     ·exact (below_sc (below_sc (below_sc (Below.refl B w) (by omega) 0 _) (by omega) 1 _) (by omega) 0 _).trans (((below_drew (below_al (Below.refl _ _) _))).mono (by simp [World.setCell]; omega))
    exact AllReady.nil
   exact AllReady.nil
  exact AllReady.nil
 exact AllReady.nil
end Go.Proofs.YtccakklnbhcbdaaGreatDoor
set_option linter.unusedVariables false
set_option linter.unusedSimpArgs false
namespace Go.Proofs.YtccakklnbhcbdaaGreatDoor
open Go.ChangeShapes Go.WideShapes Go.ChangeAt Go.RowKit
def detC (d : Det) (p : PV) : Array Value := ([.string ⟨d.name.toArray⟩, p.vb, p.vh] ++ encK 3 d.mem ++ [p.vr, p.vn, p.vl, p.vd] ++ encK 9 d.rule).toArray
def nilP (v : Value) : PV := ⟨v, .slice none 0 0, .slice none 0 0, .slice none 0 0, .slice none 0 0, .slice none 0 0, .slice none 0 0, [], []⟩
theorem detC_zero (v : Value) : detC det0 (nilP v) = zeroD := by simp [detC, det0, nilP, zeroD, encK, List.range, List.range.loop]
theorem detC_size (d : Det) (p : PV) : (detC d p).size = 19 := by simp [detC, encK_len]
theorem rdV_nil (w : World) (v : Value) : RdV w det0 (nilP v) where
 boxes := World.ownsRow_nil _ _ _ _
 holes := World.ownsRow_nil _ _ _ _
 bars := World.ownsRow_nil _ _ _ _
 runs := World.ownsRow_nil _ _ _ _
 laps := World.ownsRow_nil _ _ _ _
 dems := World.ownsRow_nil _ _ _ _
 nb := rfl
 ns := rfl
 dims := fun k h1 => absurd h1 (Nat.not_lt_zero k)
 steps := fun k h1 => absurd h1 (Nat.not_lt_zero k)
 sep := by
  have : ∀ x ∈ (nilP v).fp, x = none := by simp [PV.fp, nilP, Value.ownBlock]
  exact List.pairwise_of_forall_mem_list fun a ha b hb x h1 h2 => by rw [this a ha] at h1; cases h1
theorem fp_nil (v : Value) : ∀ b, some b ∉ (nilP v).fp := by simp [PV.fp, nilP, Value.ownBlock]
theorem read_results (tmps : Array Value) (w : World) (B : Nat) (cx cp : Array Value) (r0 : Value) (h2 : tmps.getD 2 undef = .pointer (some ⟨B, 0, none⟩)) (h3 : tmps.getD 3 undef = .pointer (some ⟨B + 1, 0, none⟩)) (h4 : tmps.getD 4 undef = .pointer (some ⟨B + 2, 0, none⟩))
  (hX : At w B 34 cx) (sx : cx.size = 19) (hP : At w (B + 1) 43 cp) (sp : cp.size = 2) (hR : At w (B + 2) 37 #[r0]) : (results Tryz.f58 tmps).run Tryz.prog w = .ok (.tuple #[.agg cx, .agg cp, r0]) w := by
 have e1 := run_loadVar_row (P := Tryz.prog) w B 34 34 cx (0, 0) _ hX Tryz.underlying34 rfl (by rw [sx]; kernel_rfl)
 have e2 := run_loadVar_row (P := Tryz.prog) w (B + 1) 43 43 cp (0, 0) _ hP Tryz.underlying43 rfl (by rw [sp]; kernel_rfl)
 have e3 : w.cell? ⟨B + 2, 0, none⟩ = some r0 := hR.c 0
 have e4 : (loadVar 37 ⟨B + 2, 0, none⟩).run Tryz.prog w = .ok r0 w := by simp [go_sem, e3]
 have h2' : tmps[2]?.getD undef = .pointer (some ⟨B, 0, none⟩) := by simpa using h2
 have h3' : tmps[3]?.getD undef = .pointer (some ⟨B + 1, 0, none⟩) := by simpa using h3
 have h4' : tmps[4]?.getD undef = .pointer (some ⟨B + 2, 0, none⟩) := by simpa using h4
 simp [results, Tryz.results58, h2', h3', h4', asAddr, e1, e2, e4]
def ReadE (l : List UInt8) (w : World) (e : Ending) (w' : World) : Prop :=
 ∃ p, e = .returned (.tuple #[.agg (detC (readS l).1 p), .agg #[.int .i64 (readS l).2.1.1, .int .i64 (readS l).2.1.2], .int .i64 (readS l).2.2]) ∧ RdV w' (readS l).1 p ∧ (∀ b, some b ∈ p.fp → w.heap.size ≤ b) ∧ Below w.heap.size w w'
structure RdF (B : Nat) (w : World) : Prop where
 x : At w B 34 zeroD
 p : ∃ p0 p1, At w (B + 1) 43 #[p0, p1]
 e : ∃ r0, At w (B + 2) 37 #[r0]
theorem At.below {w w' : World} {g R : Nat} {t : TypeId} {cs : Array Value} (h : At w g t cs) (hb : Below R w w') (hg : g < R) : At w' g t cs := (hb.block g hg).trans h
theorem RdF.below {B R : Nat} {w w' : World} (h : RdF B w) (hb : Below R w w') (hR : B + 2 < R) : RdF B w' := by
 obtain ⟨p0, p1, hp⟩ := h.p
 obtain ⟨r0, hr⟩ := h.e
 exact ⟨h.x.below hb (by omega), ⟨p0, p1, hp.below hb (by omega)⟩, ⟨r0, hr.below hb (by omega)⟩⟩
theorem readS_of_tok {l : List UInt8} (h : (tokS l).2.2 ≠ 0) : readS l = (det0, (tokS l).2.1, (tokS l).2.2) := by unfold readS; rw [if_pos h]
theorem readS_err {l : List UInt8} (h : (tokS l).2.2 = 0) {j : Nat} (hr : readT (tokS l).1 = .error j) : readS l = (det0, ((tk (tokS l).1 j).line, (tk (tokS l).1 j).col), 7) := by
 unfold readS
 rw [if_neg (by rw [h]; decide), hr]
theorem readS_ok {l : List UInt8} (h : (tokS l).2.2 = 0) {d : Det} (hr : readT (tokS l).1 = .ok d) : readS l = (d, (0, 0), 0) := by
 unfold readS
 rw [if_neg (by rw [h]; decide), hr]
theorem read_pan {l : List UInt8} {w0 w : World} {B : Nat} (hB : w0.heap.size = B) (hF : RdF B w) (hb : Below w0.heap.size w0 w) (h0 : (tokS l).2.2 = 0) {j : Nat} (hr : readT (tokS l).1 = .error j) (tmps : Array Value) (h2 : tmps.getD 2 undef = .pointer (some ⟨B, 0, none⟩)) (h3 : tmps.getD 3 undef = .pointer (some ⟨B + 1, 0, none⟩)) (h4 : tmps.getD 4 undef = .pointer (some ⟨B + 2, 0, none⟩)) :
  Leaves Tryz.prog Tryz.f58 tmps (ReadE l w0) [{ target := .fn (.func 89) #[.pointer (some ⟨B, 0, none⟩), .pointer (some ⟨B + 1, 0, none⟩), .pointer (some ⟨B + 2, 0, none⟩)], args := #[] }] (.panicking [{ v := .iface 133 (.agg #[.int .i64 (tk (tokS l).1 j).line, .int .i64 (tk (tokS l).1 j).col]), recovered := false }]) w := by
 obtain ⟨p0, p1, hp⟩ := hF.p
 obtain ⟨r0, he⟩ := hF.e
 refine leaves_cons (f := 89) (args := #[.pointer (some ⟨B, 0, none⟩), .pointer (some ⟨B + 1, 0, none⟩), .pointer (some ⟨B + 2, 0, none⟩)]) (by simp) (by simp [go_sem]) ?_
 refine (catch_pan B _ _ w p0 p1 r0 hF.x hp he []).mono ?_
 rintro e u' w' ⟨rfl, rfl, k1, k2, k3, k4⟩
 refine ⟨_, read_results tmps w' B _ _ _ h2 h3 h4 k1 rfl k2 rfl k3, nilP undef, ?_, ?_, ?_, ?_⟩
 ·rw [readS_err h0 hr, detC_zero]
 ·rw [readS_err h0 hr]
  exact rdV_nil _ _
 ·exact fun b hb => absurd hb (fp_nil _ b)
 ·exact hb.trans (by rw [hB]; exact k4)
theorem read_ret {l : List UInt8} {w0 w : World} {B : Nat} {p : PV} (hB : w0.heap.size = B) (cp : Array Value) (r0 : Value) (hX : At w B 34 (detC (readS l).1 p)) (hP : At w (B + 1) 43 #[.int .i64 (readS l).2.1.1, .int .i64 (readS l).2.1.2]) (hR : At w (B + 2) 37 #[.int .i64 (readS l).2.2]) (hV : RdV w (readS l).1 p) (hy : ∀ b, some b ∈ p.fp → w0.heap.size ≤ b) (hb : Below w0.heap.size w0 w) (tmps : Array Value) (h2 : tmps.getD 2 undef = .pointer (some ⟨B, 0, none⟩)) (h3 : tmps.getD 3 undef = .pointer (some ⟨B + 1, 0, none⟩)) (h4 : tmps.getD 4 undef = .pointer (some ⟨B + 2, 0, none⟩)) :
  Leaves Tryz.prog Tryz.f58 tmps (ReadE l w0) [] .returning w ∧ Leaves Tryz.prog Tryz.f58 tmps (ReadE l w0) [{ target := .fn (.func 89) #[.pointer (some ⟨B, 0, none⟩), .pointer (some ⟨B + 1, 0, none⟩), .pointer (some ⟨B + 2, 0, none⟩)], args := #[] }] .returning w := by
 have h1 : Leaves Tryz.prog Tryz.f58 tmps (ReadE l w0) [] .returning w := ⟨_, read_results tmps w B _ _ _ h2 h3 h4 hX (detC_size _ _) hP rfl hR, p, rfl, hV, hy, hb⟩
 refine ⟨h1, ?_⟩
 refine leaves_cons (f := 89) (args := #[.pointer (some ⟨B, 0, none⟩), .pointer (some ⟨B + 1, 0, none⟩), .pointer (some ⟨B + 2, 0, none⟩)]) (by simp) (by simp [go_sem]) ?_
 refine (catch_idle ⟨B, 0, none⟩ ⟨B + 1, 0, none⟩ ⟨B + 2, 0, none⟩ w).mono ?_
 rintro e u' w' ⟨rfl, rfl, rfl⟩
 exact h1
end Go.Proofs.YtccakklnbhcbdaaGreatDoor
set_option linter.unusedVariables false
set_option linter.unusedSimpArgs false
namespace Go.Proofs.YtccakklnbhcbdaaGreatDoor
open Go.ChangeShapes Go.WideShapes Go.ChangeAt Go.RowKit
theorem At.setSelf {w : World} {g j : Nat} {t : TypeId} {cs : Array Value} {v : Value} (h : At w g t cs) (hv : cs[j]? = some v) : w.setCell ⟨g, j, none⟩ v = w := by
 have h1 := heap_setCell_same w g j cs t v h
 have e : cs.setIfInBounds j v = cs := by
  apply Array.ext_getElem?
  intro k
  rw [Array.getElem?_setIfInBounds]
  split
  ·rename_i q
   subst q
   split
   ·exact hv.symm
   ·rename_i q
    rw [Array.getElem?_eq_none (by omega)] at hv
    cases hv
  ·rfl
 have h2 : ∀ k, (w.setCell ⟨g, j, none⟩ v).heap[k]? = w.heap[k]? := fun k => by
  by_cases q : k = g
  ·subst q
   rw [h1, e]
   exact h.symm
  ·exact Below.heap_setCell w ⟨g, j, none⟩ v k q
 have h3 : (w.setCell ⟨g, j, none⟩ v).heap = w.heap := Array.ext_getElem? h2
 have : w.setCell ⟨g, j, none⟩ v = { w with heap := (w.setCell ⟨g, j, none⟩ v).heap } := rfl
 rw [this, h3]
set_option maxRecDepth 100000 in
set_option maxHeartbeats 1000000 in
theorem read_bad (S : ByteArray) (w : World) (h0 : (tokS (by_ S)).2.2 ≠ 0) : Calls Tryz.prog 58 #[.string S] w (ReadE (by_ S) w) := by
 have hmf : ∀ (fn : Fn) (first cap : Array Value) (w : World), (Instr.makeFunc fn first cap).run Tryz.prog w = .ok (.func fn first cap) w := fun _ _ _ _ => rfl
 go_enter_defers Tryz.func58, Tryz.ntmps58
 go_upto_region 1 with fail
 generalize hW0 : World.alloc (World.alloc (World.alloc w _) _) _ = W0
 have kX0 : At W0 w.heap.size 34 zeroD := by unfold zeroD; rw [← hW0]; repeat (first | (with_reducible apply At.new'; (focus (simp; done))) | with_reducible apply At.al | with_reducible apply At.drw | with_reducible apply At.dr)
 have kP0 : At W0 (w.heap.size + 1) 43 #[.int .i64 0, .int .i64 0] := by rw [← hW0]; repeat (first | (with_reducible apply At.new'; (focus (simp; done))) | with_reducible apply At.al | with_reducible apply At.drw | with_reducible apply At.dr)
 have kE0 : At W0 (w.heap.size + 1 + 1) 37 #[.int .i64 0] := by rw [← hW0]; repeat (first | (with_reducible apply At.new'; (focus (simp; done))) | with_reducible apply At.al | with_reducible apply At.drw | with_reducible apply At.dr)
 have HB0 : Below w.heap.size w W0 := by rw [← hW0]; repeat (first | with_reducible assumption | with_reducible exact Below.refl _ _ | with_reducible refine below_al ?_ _ | with_reducible refine below_drew ?_ | with_reducible refine below_drewN ?_ _ | with_reducible refine below_set ?_ (by dsimp only; omega) _)
 clear hW0
 obtain ⟨B, hB⟩ : ∃ B, w.heap.size = B := ⟨_, rfl⟩
 rw [hB] at kX0 kP0 kE0 HB0 ⊢
 have HTk := tokens_any S W0
 go_wp2_with fail
 refine HTk.mono ?_
 rintro e w1 ⟨⟨v, rfl, hov⟩, HB1⟩
 have kX1 := kX0.bel HB1
 have kP1 := kP0.bel HB1
 have kE1 := kE0.bel HB1
 have HBw : Hid (Below B w w1) := Lib.hid (HB0.trans (HB1.mono (by have := kX0.lt; omega)))
 have hEl := kE1.lt
 have y0 : w1.cell? ⟨B + 1, 0, none⟩ = some (.int .i64 0) := kP1.c 0
 have y1 : w1.cell? ⟨B + 1, 1, none⟩ = some (.int .i64 0) := kP1.c 1
 have z0 : w1.cell? ⟨B + 1 + 1, 0, none⟩ = some (.int .i64 0) := kE1.c 0
 have yf0 : w1.frozen? ⟨B + 1, 0, none⟩ = false := kP1.f 0
 have yf1 : w1.frozen? ⟨B + 1, 1, none⟩ = false := kP1.f 1
 have zf0 : w1.frozen? ⟨B + 1 + 1, 0, none⟩ = false := kE1.f 0
 have hE0l := kE0.lt
 clear HTk kX0 kP0 kE0 HB0
 go_upto_region 2 with fail
 generalize hW2 : World.setCell (World.setCell (World.setCell w1 _ _) _ _) _ _ = W2
 have kX2 : At W2 B 34 zeroD := by rw [← hW2]; exact ((kX1.ne ⟨B + 1, 0, none⟩ _ (by simp)).ne ⟨B + 1, 1, none⟩ _ (by simp)).ne ⟨B + 1 + 1, 0, none⟩ _ (by simp; omega)
 have kP2 : At W2 (B + 1) 43 #[.int .i64 (tokS (by_ S)).2.1.1, .int .i64 (tokS (by_ S)).2.1.2] := by
  have := ((kP1.put 0 (.int .i64 (tokS (by_ S)).2.1.1)).put 1 (.int .i64 (tokS (by_ S)).2.1.2)).ne ⟨B + 1 + 1, 0, none⟩ (.int .i64 (tokS (by_ S)).2.2) (by simp)
  rw [← hW2]
  simpa using this
 have kE2 : At W2 (B + 1 + 1) 37 #[.int .i64 (tokS (by_ S)).2.2] := by
  have := (((kE1.ne ⟨B + 1, 0, none⟩ (.int .i64 (tokS (by_ S)).2.1.1) (by simp)).ne ⟨B + 1, 1, none⟩ (.int .i64 (tokS (by_ S)).2.1.2) (by simp)).put 0 (.int .i64 (tokS (by_ S)).2.2))
  rw [← hW2]
  simpa using this
 have HB2 : Hid (Below B w W2) := Lib.hid (by
  rw [← hW2]
  exact below_sc (below_sc (below_sc HBw.out (by omega) 0 _) (by omega) 1 _) (by omega) 0 _)
 have hov2 : W2.ownsRow 0 107 4 v (tokS (by_ S)).1.length (tksC (tokS (by_ S)).1) := by
  rw [← hW2]
  refine own_weak (own_frm (F := [some (B + 1), some (B + 1 + 1)]) hov ⟨rfl, rfl, rfl, by simp [World.setCell], fun k hk hn => ?_⟩ fun b hb => ?_) (Nat.zero_le _)
  ·have h1 : k ≠ B + 1 := fun q => hn (by simp [q])
   have h2 : k ≠ B + 1 + 1 := fun q => hn (by simp [q])
   rw [Below.heap_setCell _ _ _ k h2, Below.heap_setCell _ _ _ k h1, Below.heap_setCell _ _ _ k h1]
  ·have := hE0l
   simp only [List.mem_cons, Option.some.injEq, List.not_mem_nil, or_false] at hb
   omega
 clear hW2 hov kX1 kP1 kE1 y0 y1 z0 yf0 yf1 zf0 HBw hEl
 have hL := readS_of_tok h0
 generalize hLL : (tokS (by_ S)).2.1.1 = L at *
 generalize hCC : (tokS (by_ S)).2.1.2 = C at *
 generalize hEE : (tokS (by_ S)).2.2 = E at *
 have p0 : W2.cell? ⟨B + 1, 0, none⟩ = some (.int .i64 L) := kP2.c 0
 have p1 : W2.cell? ⟨B + 1, 1, none⟩ = some (.int .i64 C) := kP2.c 1
 have r0 : W2.cell? ⟨B + 1 + 1, 0, none⟩ = some (.int .i64 E) := kE2.c 0
 have f0 : W2.frozen? ⟨B + 1, 0, none⟩ = false := kP2.f 0
 have f1 : W2.frozen? ⟨B + 1, 1, none⟩ = false := kP2.f 1
 have f2 : W2.frozen? ⟨B + 1 + 1, 0, none⟩ = false := kE2.f 0
 have s0 : W2.setCell ⟨B + 1, 0, none⟩ (.int .i64 L) = W2 := kP2.setSelf rfl
 have s1 : W2.setCell ⟨B + 1, 1, none⟩ (.int .i64 C) = W2 := kP2.setSelf rfl
 have s2 : W2.setCell ⟨B + 1 + 1, 0, none⟩ (.int .i64 E) = W2 := kE2.setSelf rfl
 have hne : (E != 0) = true := by simp [h0]
 have hFin : Hid (∀ tmps : Array Value, tmps.getD 2 undef = .pointer (some ⟨B, 0, none⟩) → tmps.getD 3 undef = .pointer (some ⟨B + 1, 0, none⟩) → tmps.getD 4 undef = .pointer (some ⟨B + 2, 0, none⟩) → Leaves Tryz.prog Tryz.f58 tmps (ReadE (by_ S) w) [] .returning W2.drew) := Lib.hid fun tmps h2 h3 h4 => by
  have hb := HB2.out.trans ((below_drew (Below.refl W2.heap.size W2)).mono (by have := kX2.lt; omega))
  refine (read_ret (p := nilP undef) hB #[] undef ?_ ?_ ?_ ?_ (fun b hb => absurd hb (fp_nil _ b)) (by rw [hB]; exact hb) tmps h2 h3 h4).1
  ·rw [hL, detC_zero]
   exact kX2.drw
  ·rw [hL]
   dsimp only
   rw [hLL, hCC]
   exact kP2.drw
  ·rw [hL]
   exact kE2.drw
  ·rw [hL]
   exact rdV_nil _ _
 go_wp2_with fail
 refine wp_region_noPanic ?_
 refine wp_region_any (by kernel_rfl) ?_
 (try (change wpAny _ _ _ _ _ _ _ (World.drew _)))
 refine wpAny_take (i := 0) (v := ?_) (gt rfl) (by kernel_rfl) (by kernel_rfl) (by kernel_rfl) (fun _ _ _ h => h) (Or.inl ⟨by rfl, ?_⟩) ?_
 rotate_left
 focus (intro w; go_simp; first | done | with_reducible rfl)
 (try simp only [pu, pn, si, s0, sn])
 refine wpAny_ready (rs := [1, 2, 3]) (by kernel_rfl) (by simp) ?_
 refine AllReady.cons (i := 1) (gt rfl) (fun K hK => ?_) ?_
 ·go_simp
  refine hK _ _ ?_
  clear hK K
  (try simp only [pu, pn, si, s0, sn])
  refine wpAny_ready (rs := [2, 3]) (by kernel_rfl) (by simp) ?_
  refine AllReady.cons (i := 2) (gt rfl) (fun K hK => ?_) ?_
  ·go_simp
   refine hK _ _ ?_
   clear hK K
   (try simp only [pu, pn, si, s0, sn])
   refine wpAny_ready (rs := [3]) (by kernel_rfl) (by simp) ?_
   refine AllReady.cons (i := 3) (gt rfl) (fun K hK => ?_) ?_
   ·refine step_store_same rfl 34 (.tmp 2) (.tmp 17) rfl B zeroD (by simp [Act.eval]) (by simp [Act.eval, zeroD]) 34 (by repeat (first | exact kX2 | with_reducible apply At.al | with_reducible apply At.drw)) (by kernel_rfl) (by kernel_rfl) ?_
    refine hK _ _ ?_
    clear hK K
    (try simp only [pu, pn, si, s0, sn])
    refine wpAny_ready (rs := [4]) (by kernel_rfl) (by simp) ?_
    refine AllReady.cons (i := 4) (gt rfl) (fun K hK => ?_) ?_
    ·go_simp
     refine hK _ _ ?_
     clear hK K
     (try simp only [pu, pn, si, s0, sn])
     refine wpAny_ready (rs := [5]) (by kernel_rfl) (by simp) ?_
     refine AllReady.cons (i := 5) (gt rfl) (fun K hK => ?_) ?_
     ·go_simp
      refine hK _ _ ?_
      clear hK K
      (try simp only [pu, pn, si, s0, sn])
      refine wpAny_done (by kernel_rfl) ?_ _
      refine NoPanic.normal ?_
      go_wp2_with fail
      exact hFin.out _ rfl rfl rfl
     exact AllReady.nil
    exact AllReady.nil
   exact AllReady.nil
  refine AllReady.cons (i := 3) (gt rfl) (fun K hK => ?_) ?_
  ·refine step_store_same rfl 34 (.tmp 2) (.tmp 17) rfl B zeroD (by simp [Act.eval]) (by simp [Act.eval, zeroD]) 34 (by repeat (first | exact kX2 | with_reducible apply At.al | with_reducible apply At.drw)) (by kernel_rfl) (by kernel_rfl) ?_
   refine hK _ _ ?_
   clear hK K
   (try simp only [pu, pn, si, s0, sn])
   refine wpAny_ready (rs := [2, 4]) (by kernel_rfl) (by simp) ?_
   refine AllReady.cons (i := 2) (gt rfl) (fun K hK => ?_) ?_
   ·go_simp
    refine hK _ _ ?_
    clear hK K
    (try simp only [pu, pn, si, s0, sn])
    refine wpAny_ready (rs := [4]) (by kernel_rfl) (by simp) ?_
    refine AllReady.cons (i := 4) (gt rfl) (fun K hK => ?_) ?_
    ·go_simp
     refine hK _ _ ?_
     clear hK K
     (try simp only [pu, pn, si, s0, sn])
     refine wpAny_ready (rs := [5]) (by kernel_rfl) (by simp) ?_
     refine AllReady.cons (i := 5) (gt rfl) (fun K hK => ?_) ?_
     ·go_simp
      refine hK _ _ ?_
      clear hK K
      (try simp only [pu, pn, si, s0, sn])
      refine wpAny_done (by kernel_rfl) ?_ _
      refine NoPanic.normal ?_
      go_wp2_with fail
      exact hFin.out _ rfl rfl rfl
     exact AllReady.nil
    exact AllReady.nil
   refine AllReady.cons (i := 4) (gt rfl) (fun K hK => ?_) ?_
   ·go_simp
    refine hK _ _ ?_
    clear hK K
    (try simp only [pu, pn, si, s0, sn])
    refine wpAny_ready (rs := [2]) (by kernel_rfl) (by simp) ?_
    refine AllReady.cons (i := 2) (gt rfl) (fun K hK => ?_) ?_
    ·go_simp
     refine hK _ _ ?_
     clear hK K
     (try simp only [pu, pn, si, s0, sn])
     refine wpAny_ready (rs := [5]) (by kernel_rfl) (by simp) ?_
     refine AllReady.cons (i := 5) (gt rfl) (fun K hK => ?_) ?_
     ·go_simp
      refine hK _ _ ?_
      clear hK K
      (try simp only [pu, pn, si, s0, sn])
      refine wpAny_done (by kernel_rfl) ?_ _
      refine NoPanic.normal ?_
      go_wp2_with fail
      exact hFin.out _ rfl rfl rfl
     exact AllReady.nil
    exact AllReady.nil
   exact AllReady.nil
  exact AllReady.nil
 refine AllReady.cons (i := 2) (gt rfl) (fun K hK => ?_) ?_
 ·go_simp
  refine hK _ _ ?_
  clear hK K
  (try simp only [pu, pn, si, s0, sn])
  refine wpAny_ready (rs := [1, 3]) (by kernel_rfl) (by simp) ?_
  refine AllReady.cons (i := 1) (gt rfl) (fun K hK => ?_) ?_
  ·go_simp
   refine hK _ _ ?_
   clear hK K
   (try simp only [pu, pn, si, s0, sn])
   refine wpAny_ready (rs := [3]) (by kernel_rfl) (by simp) ?_
   refine AllReady.cons (i := 3) (gt rfl) (fun K hK => ?_) ?_
   ·refine step_store_same rfl 34 (.tmp 2) (.tmp 17) rfl B zeroD (by simp [Act.eval]) (by simp [Act.eval, zeroD]) 34 (by repeat (first | exact kX2 | with_reducible apply At.al | with_reducible apply At.drw)) (by kernel_rfl) (by kernel_rfl) ?_
    refine hK _ _ ?_
    clear hK K
    (try simp only [pu, pn, si, s0, sn])
    refine wpAny_ready (rs := [4]) (by kernel_rfl) (by simp) ?_
    refine AllReady.cons (i := 4) (gt rfl) (fun K hK => ?_) ?_
    ·go_simp
     refine hK _ _ ?_
     clear hK K
     (try simp only [pu, pn, si, s0, sn])
     refine wpAny_ready (rs := [5]) (by kernel_rfl) (by simp) ?_
     refine AllReady.cons (i := 5) (gt rfl) (fun K hK => ?_) ?_
     ·go_simp
      refine hK _ _ ?_
      clear hK K
      (try simp only [pu, pn, si, s0, sn])
      refine wpAny_done (by kernel_rfl) ?_ _
      refine NoPanic.normal ?_
      go_wp2_with fail
      exact hFin.out _ rfl rfl rfl
     exact AllReady.nil
    exact AllReady.nil
   exact AllReady.nil
  refine AllReady.cons (i := 3) (gt rfl) (fun K hK => ?_) ?_
  ·refine step_store_same rfl 34 (.tmp 2) (.tmp 17) rfl B zeroD (by simp [Act.eval]) (by simp [Act.eval, zeroD]) 34 (by repeat (first | exact kX2 | with_reducible apply At.al | with_reducible apply At.drw)) (by kernel_rfl) (by kernel_rfl) ?_
   refine hK _ _ ?_
   clear hK K
   (try simp only [pu, pn, si, s0, sn])
   refine wpAny_ready (rs := [1]) (by kernel_rfl) (by simp) ?_
   refine AllReady.cons (i := 1) (gt rfl) (fun K hK => ?_) ?_
   ·go_simp
    refine hK _ _ ?_
    clear hK K
    (try simp only [pu, pn, si, s0, sn])
    refine wpAny_ready (rs := [4]) (by kernel_rfl) (by simp) ?_
    refine AllReady.cons (i := 4) (gt rfl) (fun K hK => ?_) ?_
    ·go_simp
     refine hK _ _ ?_
     clear hK K
     (try simp only [pu, pn, si, s0, sn])
     refine wpAny_ready (rs := [5]) (by kernel_rfl) (by simp) ?_
     refine AllReady.cons (i := 5) (gt rfl) (fun K hK => ?_) ?_
     ·go_simp
      refine hK _ _ ?_
      clear hK K
      (try simp only [pu, pn, si, s0, sn])
      refine wpAny_done (by kernel_rfl) ?_ _
      refine NoPanic.normal ?_
      go_wp2_with fail
      exact hFin.out _ rfl rfl rfl
     exact AllReady.nil
    exact AllReady.nil
   exact AllReady.nil
  exact AllReady.nil
 refine AllReady.cons (i := 3) (gt rfl) (fun K hK => ?_) ?_
 ·refine step_store_same rfl 34 (.tmp 2) (.tmp 17) rfl B zeroD (by simp [Act.eval]) (by simp [Act.eval, zeroD]) 34 (by repeat (first | exact kX2 | with_reducible apply At.al | with_reducible apply At.drw)) (by kernel_rfl) (by kernel_rfl) ?_
  refine hK _ _ ?_
  clear hK K
  (try simp only [pu, pn, si, s0, sn])
  refine wpAny_ready (rs := [1, 2]) (by kernel_rfl) (by simp) ?_
  refine AllReady.cons (i := 1) (gt rfl) (fun K hK => ?_) ?_
  ·go_simp
   refine hK _ _ ?_
   clear hK K
   (try simp only [pu, pn, si, s0, sn])
   refine wpAny_ready (rs := [2, 4]) (by kernel_rfl) (by simp) ?_
   refine AllReady.cons (i := 2) (gt rfl) (fun K hK => ?_) ?_
   ·go_simp
    refine hK _ _ ?_
    clear hK K
    (try simp only [pu, pn, si, s0, sn])
    refine wpAny_ready (rs := [4]) (by kernel_rfl) (by simp) ?_
    refine AllReady.cons (i := 4) (gt rfl) (fun K hK => ?_) ?_
    ·go_simp
     refine hK _ _ ?_
     clear hK K
     (try simp only [pu, pn, si, s0, sn])
     refine wpAny_ready (rs := [5]) (by kernel_rfl) (by simp) ?_
     refine AllReady.cons (i := 5) (gt rfl) (fun K hK => ?_) ?_
     ·go_simp
      refine hK _ _ ?_
      clear hK K
      (try simp only [pu, pn, si, s0, sn])
      refine wpAny_done (by kernel_rfl) ?_ _
      refine NoPanic.normal ?_
      go_wp2_with fail
      exact hFin.out _ rfl rfl rfl
     exact AllReady.nil
    exact AllReady.nil
   refine AllReady.cons (i := 4) (gt rfl) (fun K hK => ?_) ?_
   ·go_simp
    refine hK _ _ ?_
    clear hK K
    (try simp only [pu, pn, si, s0, sn])
    refine wpAny_ready (rs := [2]) (by kernel_rfl) (by simp) ?_
    refine AllReady.cons (i := 2) (gt rfl) (fun K hK => ?_) ?_
    ·go_simp
     refine hK _ _ ?_
     clear hK K
     (try simp only [pu, pn, si, s0, sn])
     refine wpAny_ready (rs := [5]) (by kernel_rfl) (by simp) ?_
     refine AllReady.cons (i := 5) (gt rfl) (fun K hK => ?_) ?_
     ·go_simp
      refine hK _ _ ?_
      clear hK K
      (try simp only [pu, pn, si, s0, sn])
      refine wpAny_done (by kernel_rfl) ?_ _
      refine NoPanic.normal ?_
      go_wp2_with fail
      exact hFin.out _ rfl rfl rfl
     exact AllReady.nil
    exact AllReady.nil
   exact AllReady.nil
  refine AllReady.cons (i := 2) (gt rfl) (fun K hK => ?_) ?_
  ·go_simp
   refine hK _ _ ?_
   clear hK K
   (try simp only [pu, pn, si, s0, sn])
   refine wpAny_ready (rs := [1]) (by kernel_rfl) (by simp) ?_
   refine AllReady.cons (i := 1) (gt rfl) (fun K hK => ?_) ?_
   ·go_simp
    refine hK _ _ ?_
    clear hK K
    (try simp only [pu, pn, si, s0, sn])
    refine wpAny_ready (rs := [4]) (by kernel_rfl) (by simp) ?_
    refine AllReady.cons (i := 4) (gt rfl) (fun K hK => ?_) ?_
    ·go_simp
     refine hK _ _ ?_
     clear hK K
     (try simp only [pu, pn, si, s0, sn])
     refine wpAny_ready (rs := [5]) (by kernel_rfl) (by simp) ?_
     refine AllReady.cons (i := 5) (gt rfl) (fun K hK => ?_) ?_
     ·go_simp
      refine hK _ _ ?_
      clear hK K
      (try simp only [pu, pn, si, s0, sn])
      refine wpAny_done (by kernel_rfl) ?_ _
      refine NoPanic.normal ?_
      go_wp2_with fail
      exact hFin.out _ rfl rfl rfl
     exact AllReady.nil
    exact AllReady.nil
   exact AllReady.nil
  exact AllReady.nil
 exact AllReady.nil
end Go.Proofs.YtccakklnbhcbdaaGreatDoor
