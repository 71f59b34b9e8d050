import Derived.Test.YtccakklnbhcbdaaGreatDoorFQh
import Derived.Deep.MidRow
import Derived.Deep.RegionHeld3
import Derived.Test.YtccakklnbhcbdaaGreatDoorFA
set_option linter.unusedVariables false
set_option linter.unusedSimpArgs false
namespace Go.Proofs.YtccakklnbhcbdaaGreatDoor
open Go.ChangeShapes Go.WideShapes Go.ChangeAt Go.RowKit
section
variable {ts : List Tk}
theorem readT_no (h : ¬ ((tk ts (skipT ts ts.length 0)).kind = 1 ∧ (tk ts (skipT ts ts.length 0)).text = wMember)) : readT ts = .error (skipT ts ts.length 0) := by
 unfold readT
 dsimp only
 rw [if_neg h]
def linesR : Except Nat Rd → Except Nat Det
 | .error e => .error e
 | .ok s => if s.ruled then .ok s.d else .error s.i
def readR (ts : List Tk) : Except Nat Rd → Except Nat Det
 | .error e => .error e
 | .ok s => linesR (linesT ts ts.length s)
theorem readT_yes (h : (tk ts (skipT ts ts.length 0)).kind = 1 ∧ (tk ts (skipT ts ts.length 0)).text = wMember) : readT ts = readR ts (bodyT ts wMember ⟨skipT ts ts.length 0, det0, false⟩) := by
 unfold readT readR
 dsimp only
 rw [if_pos h]
 cases bodyT ts wMember ⟨skipT ts ts.length 0, det0, false⟩ with
 | error e => rfl
 | ok s =>
  dsimp only
  unfold linesR
  cases linesT ts ts.length s <;> rfl
def LinG (ts : List Tk) (D : Except Nat Rd) (s : Rd) : Prop := ∃ f, ts.length ≤ f + s.i ∧ linesT ts f s = D
theorem LinG.stop {D : Except Nat Rd} {s : Rd} (h : LinG ts D s) (hi : s.i < ts.length) (hk : (tk ts s.i).kind = 5) : D = .ok s := by
 obtain ⟨f, h1, h2⟩ := h
 cases f with
 | zero => omega
 | succ f => rw [← h2, linesT, if_pos hk]
theorem LinG.bad {D : Except Nat Rd} {s : Rd} (h : LinG ts D s) (hi : s.i < ts.length) (hk : (tk ts s.i).kind ≠ 5) {e : Nat} (ho : otherT ts s = .error e) : D = .error e := by
 obtain ⟨f, h1, h2⟩ := h
 cases f with
 | zero => omega
 | succ f => rw [← h2, linesT, if_neg hk, ho]
theorem LinG.go {D : Except Nat Rd} {s s' : Rd} (h : LinG ts D s) (hi : s.i < ts.length) (hk : (tk ts s.i).kind ≠ 5) (ho : otherT ts s = .ok s') (hs : s.i < s'.i) : LinG ts D s' := by
 obtain ⟨f, h1, h2⟩ := h
 cases f with
 | zero => omega
 | succ f => exact ⟨f, by omega, by rw [← h2, linesT, if_neg hk, ho]⟩
theorem other_up (hE : Ends ts) {s s' : Rd} (hi : s.i < ts.length) (ho : otherT ts s = .ok s') (hm : manyD s.d ≤ s.i) : s.i < s'.i ∧ s'.i < ts.length ∧ manyD s'.d ≤ s'.i := by
 unfold otherT at ho
 split at ho
 ·rename_i hw
  have hk : (tk ts s.i).kind = 1 := by
   unfold wordOk at hw
   simp only [Bool.and_eq_true, decide_eq_true_eq] at hw
   exact hw.1.1.1.1
  exact body_up hE (hE.more s.i hi (by rw [hk]; decide)) ho hm
 ·cases ho
end
theorem leaves_slots {R : Ending → World → Prop} {t t' : Array Value} (h2 : t[2]?.getD undef = t'[2]?.getD undef) (h3 : t[3]?.getD undef = t'[3]?.getD undef) (h4 : t[4]?.getD undef = t'[4]?.getD undef) : ∀ (ds : List Deferred) (u : FrameMode) (w : World), Leaves Tryz.prog Tryz.f58 t R ds u w → Leaves Tryz.prog Tryz.f58 t' R ds u w
 | [], .returning, w, h => by
  obtain ⟨v, h1, hR⟩ := h
  refine ⟨v, ?_, hR⟩
  rw [← h1]
  simp only [results, Tryz.results58]
  simp [h2, h3, h4]
 | [], .panicking c, w, h => h
 | [], .run, w, h => h
 | d :: ds, u, w, ⟨hu, fv, cap, f, args, e1, e2, hC⟩ => ⟨hu, fv, cap, f, args, e1, e2, hC.mono fun e u' w' => by
  cases e with
  | returned v => exact leaves_slots h2 h3 h4 ds _ w'
  | panicked c => exact leaves_slots h2 h3 h4 ds _ w'
  | outgrown => exact id⟩
theorem read_put {R : Ending → World → Prop} {c : List PanicEntry} {a : Act} {w : World} {d : Option Tmp} {v : Value} (hd : ∀ k, d = some k → 5 ≤ k) (h : bodyPostD Tryz.prog Tryz.f58 R (.panic c) (a.put d v) w) : bodyPostD Tryz.prog Tryz.f58 R (.panic c) a w := by
 cases d with
 | none => exact h
 | some k =>
  have hk := hd k rfl
  refine leaves_slots ?_ ?_ ?_ _ _ _ h
  ·simp only [Act.put]
   rw [Array.getElem?_setIfInBounds_ne (fun q => by rw [q] at hk; exact absurd hk (by decide))]
  ·simp only [Act.put]
   rw [Array.getElem?_setIfInBounds_ne (fun q => by rw [q] at hk; exact absurd hk (by decide))]
  ·simp only [Act.put]
   rw [Array.getElem?_setIfInBounds_ne (fun q => by rw [q] at hk; exact absurd hk (by decide))]
theorem below_row {B g : Nat} {w0 w : World} (hb : Below B w0 w) (hBg : B ≤ g) (cs : Array Value) : Below B w0 (w.setRow g cs) := hb.trans ⟨rfl, rfl, rfl, by simp, fun k hk => setRow_other w g k cs (by omega)⟩
theorem detC_at {w : World} {R : Nat} {s : Rd} {p : PV} (h : At w R 139 (rdC s p)) : w.rangeAt R 2 (detC s.d p).toList := by
 intro j v hj
 rw [h.c]
 have e : (rdC s p) = ([p.vt, .int .i64 (s.i : Int)] ++ ((detC s.d p).toList ++ [Value.bool s.ruled])).toArray := by simp [rdC, detC]
 have hlt : j < (detC s.d p).toList.length := (List.getElem?_eq_some_iff.1 hj).1
 rw [e, List.getElem?_toArray, List.getElem?_append_right (by simp)]
 rw [show 2 + j - ([p.vt, Value.int .i64 (s.i : Int)] : List Value).length = j by simp, List.getElem?_append_left hlt]
 exact hj
theorem Value.one_encK (k : Nat) (l : List Int) : (encK k l).all (·.oneCell') = true := by
 unfold encK
 rw [List.all_eq_true]
 intro x hx
 obtain ⟨c, _, rfl⟩ := List.mem_map.1 hx
 rfl
theorem Row.one {α : Type} {w : World} {e : TypeId} {sz : Nat} {enc : α → List Value} {v : Value} {l : List α} (h : Row w e sz enc v l) : v.oneCell' = true := by
 obtain ⟨_, ⟨h1, _⟩ | ⟨g, cap, cur, h1, _⟩⟩ := h <;> rw [h1] <;> rfl
theorem detC_one {w : World} {d : Det} {p : PV} (h : RdV w d p) : (detC d p).all (·.oneCell') = true := by
 unfold detC
 rw [List.all_toArray]
 simp only [List.all_append, List.all_cons, List.all_nil, Value.one_encK, h.boxes.one, h.holes.one, h.bars.one, h.runs.one, h.laps.one, h.dems.one, Bool.and_true, Bool.true_and]
 rfl
set_option maxRecDepth 100000 in
set_option maxHeartbeats 4000000 in
theorem read_good (S : ByteArray) (w : World) (he : Env w) (h0 : (tokS (by_ S)).2.2 = 0) : Calls Tryz.prog 58 #[.string S] w (ReadE (by_ S) w) := by
 have h0h := Lib.hid h0
 clear h0
 have hmf : ∀ (fn : Fn) (first cap : Array Value) (w : World), (Instr.makeFunc fn first cap).run Tryz.prog w = .ok (.func fn first cap) w := fun _ _ _ _ => rfl
 go_enter_defers Tryz.func58, Tryz.ntmps58
 go_upto_region 1 with fail
 generalize hW0 : World.alloc (World.alloc (World.alloc w _) _) _ = W0
 have kX0 : At W0 w.heap.size 34 zeroD := by unfold zeroD; rw [← hW0]; repeat (first | (with_reducible apply At.new'; (focus (simp; done))) | with_reducible apply At.al | with_reducible apply At.drw | with_reducible apply At.dr)
 have kP0 : At W0 (w.heap.size + 1) 43 #[.int .i64 0, .int .i64 0] := by rw [← hW0]; repeat (first | (with_reducible apply At.new'; (focus (simp; done))) | with_reducible apply At.al | with_reducible apply At.drw | with_reducible apply At.dr)
 have kE0 : At W0 (w.heap.size + 1 + 1) 37 #[.int .i64 0] := by rw [← hW0]; repeat (first | (with_reducible apply At.new'; (focus (simp; done))) | with_reducible apply At.al | with_reducible apply At.drw | with_reducible apply At.dr)
 have HB0 : Below w.heap.size w W0 := by rw [← hW0]; repeat (first | with_reducible assumption | with_reducible exact Below.refl _ _ | with_reducible refine below_al ?_ _ | with_reducible refine below_drew ?_ | with_reducible refine below_drewN ?_ _ | with_reducible refine below_set ?_ (by dsimp only; omega) _)
 clear hW0
 obtain ⟨B, hB⟩ : ∃ B, w.heap.size = B := ⟨_, rfl⟩
 rw [hB] at kX0 kP0 kE0 HB0 ⊢
 have HTk := tokens_any S W0
 go_wp2_with fail
 refine HTk.mono ?_
 rintro e w1 ⟨⟨v, rfl, hov⟩, HB1⟩
 have kX1 := kX0.bel HB1
 have kP1 := kP0.bel HB1
 have kE1 := kE0.bel HB1
 have HBw : Hid (Below B w w1) := Lib.hid (HB0.trans (HB1.mono (by have := kX0.lt; omega)))
 have hEl := kE1.lt
 have y0 : w1.cell? ⟨B + 1, 0, none⟩ = some (.int .i64 0) := kP1.c 0
 have y1 : w1.cell? ⟨B + 1, 1, none⟩ = some (.int .i64 0) := kP1.c 1
 have z0 : w1.cell? ⟨B + 1 + 1, 0, none⟩ = some (.int .i64 0) := kE1.c 0
 have yf0 : w1.frozen? ⟨B + 1, 0, none⟩ = false := kP1.f 0
 have yf1 : w1.frozen? ⟨B + 1, 1, none⟩ = false := kP1.f 1
 have zf0 : w1.frozen? ⟨B + 1 + 1, 0, none⟩ = false := kE1.f 0
 have hE0l := kE0.lt
 clear HTk kX0 kP0 kE0 HB0
 go_upto_region 2 with fail
 generalize hW2 : World.setCell (World.setCell (World.setCell w1 _ _) _ _) _ _ = W2
 have kX2 : At W2 B 34 zeroD := by rw [← hW2]; exact ((kX1.ne ⟨B + 1, 0, none⟩ _ (by simp)).ne ⟨B + 1, 1, none⟩ _ (by simp)).ne ⟨B + 1 + 1, 0, none⟩ _ (by simp; omega)
 have kP2 : At W2 (B + 1) 43 #[.int .i64 (tokS (by_ S)).2.1.1, .int .i64 (tokS (by_ S)).2.1.2] := by
  have := ((kP1.put 0 (.int .i64 (tokS (by_ S)).2.1.1)).put 1 (.int .i64 (tokS (by_ S)).2.1.2)).ne ⟨B + 1 + 1, 0, none⟩ (.int .i64 (tokS (by_ S)).2.2) (by simp)
  rw [← hW2]
  simpa using this
 have kE2 : At W2 (B + 1 + 1) 37 #[.int .i64 (tokS (by_ S)).2.2] := by
  have := (((kE1.ne ⟨B + 1, 0, none⟩ (.int .i64 (tokS (by_ S)).2.1.1) (by simp)).ne ⟨B + 1, 1, none⟩ (.int .i64 (tokS (by_ S)).2.1.2) (by simp)).put 0 (.int .i64 (tokS (by_ S)).2.2))
  rw [← hW2]
  simpa using this
 have HB2 : Hid (Below B w W2) := Lib.hid (by
  rw [← hW2]
  exact below_sc (below_sc (below_sc HBw.out (by omega) 0 _) (by omega) 1 _) (by omega) 0 _)
 have hov2 : W2.ownsRow 0 107 4 v (tokS (by_ S)).1.length (tksC (tokS (by_ S)).1) := by
  rw [← hW2]
  refine own_weak (own_frm (F := [some (B + 1), some (B + 1 + 1)]) hov ⟨rfl, rfl, rfl, by simp [World.setCell], fun k hk hn => ?_⟩ fun b hb => ?_) (Nat.zero_le _)
  ·have h1 : k ≠ B + 1 := fun q => hn (by simp [q])
   have h2 : k ≠ B + 1 + 1 := fun q => hn (by simp [q])
   rw [Below.heap_setCell _ _ _ k h2, Below.heap_setCell _ _ _ k h1, Below.heap_setCell _ _ _ k h1]
  ·have := hE0l
   simp only [List.mem_cons, Option.some.injEq, List.not_mem_nil, or_false] at hb
   omega
 clear hW2 hov kX1 kP1 kE1 y0 y1 z0 yf0 yf1 zf0 HBw hEl
 have h0 := h0h.out
 obtain ⟨hE, hpos, -, -⟩ := tokS_ends h0
 have hR0 : Hid (∀ j, readT (tokS (by_ S)).1 = .error j → readS (by_ S) = (det0, ((tk (tokS (by_ S)).1 j).line, (tk (tokS (by_ S)).1 j).col), 7)) := Lib.hid fun j => readS_err h0
 have hR1 : Hid (∀ d, readT (tokS (by_ S)).1 = .ok d → readS (by_ S) = (d, (0, 0), 0)) := Lib.hid fun d => readS_ok h0
 obtain ⟨g, cap, hv, hcap, -, hgl⟩ := own_shape hov2 hpos
 subst hv
 have htk := tokAt_own hov2
 have hEl := kE2.lt
 have r0 : W2.cell? ⟨B + 1 + 1, 0, none⟩ = some (.int .i64 0) := (kE2.c 0).trans (by rw [h0]; rfl)
 have hF2 : RdF B W2 := ⟨kX2, ⟨_, _, kP2⟩, ⟨_, kE2⟩⟩
 have hPAN0 : Hid (∀ wx j (tmps : Array Value), Below W2.heap.size W2 wx → readT (tokS (by_ S)).1 = .error j → tmps.getD 2 undef = .pointer (some ⟨B, 0, none⟩) → tmps.getD 3 undef = .pointer (some ⟨B + 1, 0, none⟩) → tmps.getD 4 undef = .pointer (some ⟨B + 2, 0, none⟩) → Leaves Tryz.prog Tryz.f58 tmps (ReadE (by_ S) w) [{ target := .fn (.func 89) #[.pointer (some ⟨B, 0, none⟩), .pointer (some ⟨B + 1, 0, none⟩), .pointer (some ⟨B + 2, 0, none⟩)], args := #[] }] (.panicking [{ v := .iface 133 (.agg #[.int .i64 (tk (tokS (by_ S)).1 j).line, .int .i64 (tk (tokS (by_ S)).1 j).col]), recovered := false }]) wx) := Lib.hid fun wx j tmps hb hr h2 h3 h4 =>
  read_pan hB (hF2.below hb (by omega)) (by rw [hB]; exact HB2.out.trans (hb.mono (by omega))) h0 hr tmps h2 h3 h4
 have hRET0 : Hid (∀ wx (tmps : Array Value) d p, readT (tokS (by_ S)).1 = .ok d → Below B w wx → At wx B 34 (detC d p) → At wx (B + 1) 43 #[.int .i64 0, .int .i64 0] → At wx (B + 2) 37 #[.int .i64 0] → RdV wx d p → (∀ b, some b ∈ p.fp → B ≤ b) → tmps.getD 2 undef = .pointer (some ⟨B, 0, none⟩) → tmps.getD 3 undef = .pointer (some ⟨B + 1, 0, none⟩) → tmps.getD 4 undef = .pointer (some ⟨B + 2, 0, none⟩) → Leaves Tryz.prog Tryz.f58 tmps (ReadE (by_ S) w) [{ target := .fn (.func 89) #[.pointer (some ⟨B, 0, none⟩), .pointer (some ⟨B + 1, 0, none⟩), .pointer (some ⟨B + 2, 0, none⟩)], args := #[] }] .returning wx) := Lib.hid fun wx tmps d p hr hb k1 k2 k3 k4 k5 h2 h3 h4 => by
  have e := hR1.out d hr
  exact (read_ret (p := p) hB #[] undef (by rw [e]; exact k1) (by rw [e]; exact k2) (by rw [e]; exact k3) (by rw [e]; exact k4) (by rw [hB]; exact k5) (by rw [hB]; exact hb) tmps h2 h3 h4).2
 have hen2 : Hid (∀ wx, Below W2.heap.size W2 wx → EnvR W2.heap.size wx) := Lib.hid fun wx hb => ⟨w, he, by have := HB2.out.trans (hb.mono (by omega)); rwa [hB], by have := HB2.out.size; omega⟩
 generalize hts : (tokS (by_ S)).1 = ts at *
 clear hov2 hts hR0 hR1
 have hlen : ts.length ≤ 1000000 := hE.len
 go_upto_region 6 with fail
 obtain ⟨R, hRe⟩ : ∃ R, W2.heap.size = R := ⟨_, rfl⟩
 generalize hW3 : World.alloc W2 _ = W3
 have kR : At W3 R 139 (rdC ⟨0, det0, false⟩ (nilP (.slice (some ⟨g, 0, none⟩) ts.length cap))) := by
  rw [← hW3]
  exact At.new' hRe.symm
 have hB3 : Below R W2 W3 := by rw [← hW3, ← hRe]; exact below_al (Below.refl _ _) _
 clear hW3
 rw [hRe] at hPAN0 hen2 hgl hEl ⊢
 have h3 : RdW W3 R ts ⟨0, det0, false⟩ (nilP (.slice (some ⟨g, 0, none⟩) ts.length cap)) := by
  refine ⟨⟨kR, by rw [(rdC_get _ _).2.2.2.2.2.2.2.2.2.2]; omega, ⟨g, cap, (rdC_get _ _).1, TokAt.below htk hB3 hgl, hgl, hcap⟩, (rdC_get _ _).2.1⟩, rdV_nil _ _, fun b hb => absurd hb (fp_nil _ b)⟩
 have hPAN : Hid (∀ wx j (tmps : Array Value), Below R W3 wx → readT ts = .error j → tmps.getD 2 undef = .pointer (some ⟨B, 0, none⟩) → tmps.getD 3 undef = .pointer (some ⟨B + 1, 0, none⟩) → tmps.getD 4 undef = .pointer (some ⟨B + 2, 0, none⟩) → Leaves Tryz.prog Tryz.f58 tmps (ReadE (by_ S) w) [{ target := .fn (.func 89) #[.pointer (some ⟨B, 0, none⟩), .pointer (some ⟨B + 1, 0, none⟩), .pointer (some ⟨B + 2, 0, none⟩)], args := #[] }] (.panicking [{ v := .iface 133 (.agg #[.int .i64 (tk ts j).line, .int .i64 (tk ts j).col]), recovered := false }]) wx) := Lib.hid fun wx j tmps hb => hPAN0.out wx j tmps (hB3.trans hb)
 have hen : Hid (∀ wx, Below R W3 wx → EnvR R wx) := Lib.hid fun wx hb => hen2.out wx (hB3.trans hb)
 have hF3 : Hid (RdF B W3) := Lib.hid (hF2.below hB3 (by omega))
 have HB3 : Hid (Below B w W3) := Lib.hid (HB2.out.trans (hB3.mono (by omega)))
 have hBR : B + 2 < R := by omega
 clear hPAN0 hen2 hF2 HB2 hB3 kX2 kP2 kE2 htk hgl hEl hRe kR r0 he h0
 generalize nilP (.slice (some ⟨g, 0, none⟩) ts.length cap) = p0 at *
 have HSk := skip_any W3 R _ _ ts 0 h3.tok hpos hE
 go_wp2_with fail
 refine HSk.mono ?_
 rintro e w4 ⟨rfl, hi0, hA4⟩
 have hno := readT_no (ts := ts)
 have hyes := readT_yes (ts := ts)
 have h4 := h3.adv hA4
 have hb4 := Lib.hid (hA4.belowR (Nat.le_of_lt h3.tok.own.lt))
 generalize skipT ts ts.length 0 = i0 at *
 clear HSk hA4
 have HN := nextH (R := R) (t := 139) i0 hi0
 have HF : Hid (∀ w cs, TokR w R 139 cs ts i0 → Calls Tryz.prog 92 #[.pointer (some ⟨R, 0, none⟩)] w fun e w' => e = panE ts i0 ∧ Below w.heap.size w w') := Lib.hid fun w cs h => fail_any w R _ cs ts i0 h hi0
 obtain ⟨XS, hX, eT⟩ := tkV_mk (tk ts i0)
 rw [eT] at HN
 replace hno := Lib.hid hno
 replace hyes := Lib.hid hyes
 obtain ⟨K, hK⟩ : ∃ K, (tk ts i0).kind = K := ⟨_, rfl⟩
 rw [hK] at HN
 generalize (tk ts i0).line = L at HN
 generalize (tk ts i0).col = C at HN
 clear eT
 go_wp2_with fail
 refine (HN.out w4 _ h4.tok).mono ?_
 rintro e w5 ⟨rfl, HB5⟩
 have h5 := h4.bel HB5
 have hb5 := Lib.hid (hb4.out.trans (HB5.mono (Nat.le_of_lt h4.tok.own.lt)))
 have hR5 := h5.tok.own.lt
 have hR2 : R ≠ w5.heap.size := by omega
 have hR3 : w5.heap.size ≠ R := by omega
 clear HN hb4 HB5
 by_cases hk1 : K = 1
 rotate_left
 ·have hX9 : readT ts = .error i0 := hno.out fun q => hk1 (hK ▸ q.1)
  have e1 : (K != 1) = true := by simp [hk1]
  have e2 : (K == 1) = false := by simp [hk1]
  clear hX hno hyes hk1 hK
  go_wp2_with fail
  refine (HF.out _ _ (h5.tok.bel (below_al (Below.refl _ _) _))).mono ?_
  rintro e w6 ⟨he6, hb6⟩
  have hbe : Below R W3 w6 := hb5.out.trans ((below_then (below_al (Below.refl _ _) _) hb6).mono (Nat.le_of_lt hR5))
  subst he6
  unfold panE
  go_wp2_with fail
  exact hPAN.out _ _ _ (hbe) (hX9) rfl rfl rfl
 subst hk1
 by_cases hk2 : XS = ⟨#[109, 101, 109, 98, 101, 114]⟩
 rotate_left
 ·have hX9 : readT ts = .error i0 := hno.out fun q => hk2 (by rw [hX, q.2]; rfl)
  have e1 := str_ne hk2
  rw [show (⟨#[109, 101, 109, 98, 101, 114]⟩ : ByteArray).toList = [109, 101, 109, 98, 101, 114] from by simp] at e1
  clear hX hno hyes hk2 hK
  go_wp2_with fail
  refine (HF.out _ _ (h5.tok.bel (below_al (Below.refl _ _) _))).mono ?_
  rintro e w6 ⟨he6, hb6⟩
  have hbe : Below R W3 w6 := hb5.out.trans ((below_then (below_al (Below.refl _ _) _) hb6).mono (Nat.le_of_lt hR5))
  subst he6
  unfold panE
  go_wp2_with fail
  exact hPAN.out _ _ _ (hbe) (hX9) rfl rfl rfl
 have htx : (tk ts i0).text = wMember := by
  rw [hX] at hk2
  injection hk2 with hk2
  have := congrArg Array.toList hk2
  show (tk ts i0).text = [109, 101, 109, 98, 101, 114]
  simpa using this
 have hrd := hyes.out ⟨hK, htx⟩
 have hi1 : i0 + 1 < ts.length := hE.more i0 hi0 (by rw [hK]; decide)
 subst hk2
 clear hX hno hyes hK htx HF
 rw [body_member] at hrd
 dsimp only at hrd
 replace hrd := Lib.hid hrd
 have x1 : w5.cell? ⟨R, 1, none⟩ = some (.int .i64 (i0 : Int)) := by rw [h5.tok.own.c, (rdC_get _ _).2.1]
 have fr : w5.frozen? ⟨R, 1, none⟩ = false := h5.tok.own.f 1
 have hw : IntKind.i64.wrap ((i0 : Int) + 1) = ((i0 + 1 : Nat) : Int) := wrap_in (by omega)
 go_upto_region 12 with fail
 have hA := h5.tok.step (Below.refl _ _) (i0 + 1) (v := (i0 : Int) + 1) (by omega) (below_al (Below.refl _ _) (.cells #[.int .i64 1, .string ⟨#[109, 101, 109, 98, 101, 114]⟩, .int .i64 L, .int .i64 C] 107))
 have h6 := h5.adv hA
 have hb6 := Lib.hid (hb5.out.trans (hA.belowR (Nat.le_of_lt hR5)))
 generalize hWW : World.alloc _ _ = W6 at *
 clear h5 hb5 hA x1 fr hR5 hR2 hR3 hWW hw h4
 obtain ⟨Rn, hRn⟩ : ∃ r, nameT ts (i0 + 1) = r := ⟨_, rfl⟩
 have HNm := Lib.hid (name_any W6 R _ _ ts (i0 + 1) h6.tok hi1 hE)
 rw [hRn] at HNm
 replace hRn := Lib.hid hRn
 go_wp2_with fail
 refine HNm.out.mono ?_
 intro e wn hq
 cases Rn with
 | error j =>
  obtain ⟨he6, hW⟩ := hq
  have hbe := hb6.out.trans (hW.belowR (Nat.le_of_lt h6.tok.own.lt))
  have hX9 : readT ts = .error j := by rw [hrd.out, hRn.out]; rfl
  subst he6
  unfold panE
  go_wp2_with fail
  exact hPAN.out _ _ _ (hbe) (hX9) rfl rfl rfl
 | ok q =>
  obtain ⟨nm, i1⟩ := q
  obtain ⟨NM, hNM⟩ : ∃ NM : ByteArray, NM = ⟨nm.toArray⟩ := ⟨_, rfl⟩
  have hq1 : e = .returned (.string NM) := by rw [hNM]; exact hq.1
  replace hNM := Lib.hid hNM
  have hA0 := hq.2
  clear hq
  subst hq1
  have hi2 := (name_lt hE hi1 hRn.out).2
  have hb7 := Lib.hid (hb6.out.trans (hA0.belowR (Nat.le_of_lt h6.tok.own.lt)))
  have h7 := h6.adv hA0
  have hR7 := h7.tok.own.lt
  have hR72 : R ≠ wn.heap.size := by omega
  have x2 : wn.cell? ⟨R, 2, none⟩ = some (.string ⟨#[]⟩) := by rw [h7.tok.own.c, (rdC_get _ _).2.2.1]; rfl
  have fr2 : wn.frozen? ⟨R, 2, none⟩ = false := h7.tok.own.f 2
  obtain ⟨h8, hb8⟩ := h7.named nm
  rw [← hNM.out] at h8 hb8
  replace hb8 := Lib.hid (hb7.out.trans hb8)
  clear hA0 HNm h6 hb6
  go_upto_region 13 with fail
  generalize hW8 : World.setCell wn _ _ = W8 at *
  clear hW8 x2 fr2 hR7 hR72 hb7 h7
  have hR8 := h8.tok.own.lt
  have hR82 : R ≠ W8.heap.size := by omega
  obtain ⟨Res, hRes⟩ : ∃ r, numsT ts 3 i1 = r := ⟨_, rfl⟩
  replace hRes := Lib.hid hRes
  replace h8 := Lib.hid h8
  have HNu : Hid (∀ W P, At W P 143 #[.pointer (some ⟨R, 5, none⟩), .pointer (some ⟨R, 6, none⟩), .pointer (some ⟨R, 7, none⟩)] → P ≠ R → Below W8.heap.size W8 W → Calls Tryz.prog 94 #[.pointer (some ⟨R, 0, none⟩), .slice (some ⟨P, 0, none⟩) 3 3] W (fun e w' => NumsE ts R 139 W p0.vt R 5 3 Res e w' ∧ Below W8.heap.size W8 W)) := Lib.hid fun W P kP hPR hB => by
   have h9 := h8.out.bel hB
   rw [← hRes.out]
   refine (numbers_any (Q := R) (o := 5) W R _ _ ts i1 h9.tok hi2 hE (hen.out _ (hb8.out.trans (hB.mono (Nat.le_of_lt hR8)))) P 3 3 _ _ kP (fun c hc => ?_) hPR hPR _ _ h9.tok.own (by rw [(rdC_get _ _).2.2.2.2.2.2.2.2.2.2]; omega) (Nat.le_refl _) (fun _ => by omega) (Nat.le_refl _) (by omega) p0.vt (rdC_get _ _).1).mono fun e w' hN => ⟨hN, hB⟩
   have hcc : c = 0 ∨ c = 1 ∨ c = 2 := by omega
   rcases hcc with rfl | rfl | rfl <;> rfl
  cases Res with
  | error j =>
   have hX9 : readT ts = .error j := by rw [hrd.out, hRn.out]; dsimp only; rw [hRes.out]; rfl
   go_wp2_with fail
   refine wp_region_any (by kernel_rfl) ?_
   (try (change wpAny _ _ _ _ _ _ _ (World.drew _)))
   refine wpAny_take (i := 0) (v := ?_) (gt rfl) (by kernel_rfl) (by kernel_rfl) (by kernel_rfl) (fun c a w h => read_put (by intro k e; cases e; decide) h) (Or.inl ⟨by rfl, ?_⟩) ?_
   rotate_left
   focus (intro w; go_simp; first | done | with_reducible rfl)
   (try simp only [pu, pn, si, s0, sn])
   refine wpAny_take (i := 1) (v := ?_) (gt rfl) (by kernel_rfl) (by kernel_rfl) (by kernel_rfl) (fun c a w h => read_put (by intro k e; cases e; decide) h) (Or.inl ⟨by rfl, ?_⟩) ?_
   rotate_left
   focus (intro w; go_simp; first | done | with_reducible rfl)
   (try simp only [pu, pn, si, s0, sn])
   refine wpAny_take (i := 2) (v := ?_) (gt rfl) (by kernel_rfl) (by kernel_rfl) (by kernel_rfl) (fun c a w h => read_put (by intro k e; cases e; decide) h) (Or.inl ⟨by rfl, ?_⟩) ?_
   rotate_left
   focus (intro w; go_simp; first | done | with_reducible rfl)
   (try simp only [pu, pn, si, s0, sn])
   refine wpAny_take (i := 3) (v := ?_) (gt rfl) (by kernel_rfl) (by kernel_rfl) (by kernel_rfl) (fun c a w h => read_put (by intro k e; cases e; decide) h) (Or.inl ⟨by rfl, ?_⟩) ?_
   rotate_left
   focus (intro w; go_simp; first | done | with_reducible rfl)
   (try simp only [pu, pn, si, s0, sn])
   refine wpAny_take (i := 4) (v := ?_) (gt rfl) (by kernel_rfl) (by kernel_rfl) (by kernel_rfl) (fun c a w h => read_put (by intro k e; cases e; decide) h) (Or.inl ⟨by rfl, ?_⟩) ?_
   rotate_left
   focus (intro w; go_simp; first | done | with_reducible rfl)
   (try simp only [pu, pn, si, s0, sn])
   refine wpAny_take (i := 5) (v := ?_) (gt rfl) (by kernel_rfl) (by kernel_rfl) (by kernel_rfl) (fun c a w h => read_put (by intro k e; cases e; decide) h) (Or.inl ⟨by rfl, ?_⟩) ?_
   rotate_left
   focus (intro w; go_simp; first | done | with_reducible rfl)
   (try simp only [pu, pn, si, s0, sn])
   refine wpAny_take (i := 6) (v := ?_) (gt rfl) (by kernel_rfl) (by kernel_rfl) (by kernel_rfl) (fun c a w h => read_put (by intro k e; cases e; decide) h) (Or.inl ⟨by rfl, ?_⟩) ?_
   rotate_left
   focus (intro w; go_simp; first | done | with_reducible rfl)
   (try simp only [pu, pn, si, s0, sn])
   refine wpAny_take (i := 7) (v := ?_) (gt rfl) (by kernel_rfl) (by kernel_rfl) (by kernel_rfl) (fun c a w h => read_put (by intro k e; cases e; decide) h) (Or.inl ⟨by rfl, ?_⟩) ?_
   rotate_left
   focus (intro w; go_simp; first | done | with_reducible rfl)
   (try simp only [pu, pn, si, s0, sn])
   refine wpAny_take (i := 8) (v := ?_) (gt rfl) (by kernel_rfl) (by kernel_rfl) (by kernel_rfl) (fun c a w h => read_put (by intro k e; cases e; decide) h) (Or.inl ⟨by rfl, ?_⟩) ?_
   rotate_left
   focus (intro w; go_simp; first | done | with_reducible rfl)
   (try simp only [pu, pn, si, s0, sn])
   refine wpAny_take (i := 9) (v := ?_) (gt rfl) (by kernel_rfl) (by kernel_rfl) (by kernel_rfl) (fun c a w h => read_put (by intro k e; cases e; decide) h) (Or.inl ⟨by rfl, ?_⟩) ?_
   rotate_left
   focus (intro w; go_simp; first | done | with_reducible rfl)
   (try simp only [pu, pn, si, s0, sn])
   refine wpAny_take (i := 10) (v := ?_) (gt rfl) (by kernel_rfl) (by kernel_rfl) (by kernel_rfl) (fun c a w h => read_put (by intro k e; cases e; decide) h) (Or.inl ⟨by rfl, ?_⟩) ?_
   rotate_left
   focus (intro w; go_simp; first | done | with_reducible rfl)
   (try simp only [pu, pn, si, s0, sn])
   refine wpAny_take (i := 11) (v := ?_) (gt rfl) (by kernel_rfl) (by kernel_rfl) (by kernel_rfl) (fun c a w h => read_put (by intro k e; cases e; decide) h) (Or.inl ⟨by rfl, ?_⟩) ?_
   rotate_left
   focus (intro w; go_simp; first | done | with_reducible rfl)
   (try simp only [pu, pn, si, s0, sn])
   refine wpAny_ready (rs := [12]) (by kernel_rfl) (by simp) ?_
   refine AllReady.cons (i := 12) (gt rfl) (fun K hK => ?_) ?_
   ·go_simp
    refine hK _ _ ?_
    clear hK K
    (try simp only [pu, pn, si, s0, sn])
    refine wpAny_ready (rs := [13]) (by kernel_rfl) (by simp) ?_
    refine AllReady.cons (i := 13) (gt rfl) (fun K hK => ?_) ?_
    ·go_simp
     go_at_call 94
     refine (HNu.out _ W8.heap.size (by repeat (first | (with_reducible apply At.new'; (focus (simp; done))) | with_reducible apply At.al | with_reducible apply At.drw | with_reducible apply At.dr)) (by omega) (by repeat (first | with_reducible assumption | with_reducible exact Below.refl _ _ | with_reducible refine below_al ?_ _ | with_reducible refine below_drew ?_ | with_reducible refine below_drewN ?_ _ | with_reducible refine below_set ?_ (by dsimp only; omega) _))).mono ?_
     rintro e w3 ⟨⟨he6, hW⟩, hB⟩
     have hbe : Below R W3 w3 := hb8.out.trans ((hB.mono (Nat.le_of_lt hR8)).trans (hW.below (Nat.le_trans (Nat.le_of_lt hR8) hB.size) fun x hx => (by rcases nps_mem hx with rfl | ⟨d, _, rfl⟩ <;> exact Nat.le_refl _)))
     subst he6
     unfold panE
     go_wp2_with fail
     exact hPAN.out _ _ _ hbe hX9 rfl rfl rfl
    exact AllReady.nil
   exact AllReady.nil
  | ok q =>
   obtain ⟨n, j⟩ := q
   have hjl : j < ts.length := nums_lt hE 3 _ hi2 hRes.out
   have hnl : n.length = 3 := nums_len ts 3 _ hRes.out
   have HN2 : Hid (∀ W P, At W P 143 #[.pointer (some ⟨R, 5, none⟩), .pointer (some ⟨R, 6, none⟩), .pointer (some ⟨R, 7, none⟩)] → P ≠ R → Below W8.heap.size W8 W → Calls Tryz.prog 94 #[.pointer (some ⟨R, 0, none⟩), .slice (some ⟨P, 0, none⟩) 3 3] W (fun e w' => e = .returned (.tuple #[]) ∧ Hid (RdW w' R ts ⟨j, { ({ det0 with name := nm } : Det) with mem := n }, false⟩ p0) ∧ Hid (Below R W3 w'))) := Lib.hid fun W P kP hPR hB => (HNu.out W P kP hPR hB).mono fun e w' ⟨hN, hB⟩ => by
    have h9 := h8.out.bel hB
    obtain ⟨h10, hb10⟩ := rd_mem h9 hnl hN
    exact ⟨hN.1, Lib.hid h10, Lib.hid (hb8.out.trans ((hB.mono (Nat.le_of_lt hR8)).trans hb10))⟩
   obtain ⟨Ee, hEe⟩ : ∃ r, endT ts j = r := ⟨_, rfl⟩
   have HEn : Hid (∀ w', RdW w' R ts ⟨j, { ({ det0 with name := nm } : Det) with mem := n }, false⟩ p0 → Calls Tryz.prog 95 #[.pointer (some ⟨R, 0, none⟩)] w' (EndE ts R w' ⟨j, { ({ det0 with name := nm } : Det) with mem := n }, false⟩ p0 Ee)) := Lib.hid fun w' h' => by
    have := end_rd w' R ts _ p0 h' hjl hE
    dsimp only at this
    rw [hEe] at this
    exact this
   have hrd2 : Hid (readT ts = readR ts (endRes ⟨j, { ({ det0 with name := nm } : Det) with mem := n }, false⟩ Ee)) := Lib.hid (by
    rw [hrd.out, hRn.out]
    dsimp only
    rw [hRes.out, ← hEe]
    rfl)
   replace hEe := Lib.hid hEe
   clear HNu hrd
   go_wp2_with fail
   refine wp_region_any (by kernel_rfl) ?_
   (try (change wpAny _ _ _ _ _ _ _ (World.drew _)))
   refine wpAny_take (i := 0) (v := ?_) (gt rfl) (by kernel_rfl) (by kernel_rfl) (by kernel_rfl) (fun c a w h => read_put (by intro k e; cases e; decide) h) (Or.inl ⟨by rfl, ?_⟩) ?_
   rotate_left
   focus (intro w; go_simp; first | done | with_reducible rfl)
   (try simp only [pu, pn, si, s0, sn])
   refine wpAny_take (i := 1) (v := ?_) (gt rfl) (by kernel_rfl) (by kernel_rfl) (by kernel_rfl) (fun c a w h => read_put (by intro k e; cases e; decide) h) (Or.inl ⟨by rfl, ?_⟩) ?_
   rotate_left
   focus (intro w; go_simp; first | done | with_reducible rfl)
   (try simp only [pu, pn, si, s0, sn])
   refine wpAny_take (i := 2) (v := ?_) (gt rfl) (by kernel_rfl) (by kernel_rfl) (by kernel_rfl) (fun c a w h => read_put (by intro k e; cases e; decide) h) (Or.inl ⟨by rfl, ?_⟩) ?_
   rotate_left
   focus (intro w; go_simp; first | done | with_reducible rfl)
   (try simp only [pu, pn, si, s0, sn])
   refine wpAny_take (i := 3) (v := ?_) (gt rfl) (by kernel_rfl) (by kernel_rfl) (by kernel_rfl) (fun c a w h => read_put (by intro k e; cases e; decide) h) (Or.inl ⟨by rfl, ?_⟩) ?_
   rotate_left
   focus (intro w; go_simp; first | done | with_reducible rfl)
   (try simp only [pu, pn, si, s0, sn])
   refine wpAny_take (i := 4) (v := ?_) (gt rfl) (by kernel_rfl) (by kernel_rfl) (by kernel_rfl) (fun c a w h => read_put (by intro k e; cases e; decide) h) (Or.inl ⟨by rfl, ?_⟩) ?_
   rotate_left
   focus (intro w; go_simp; first | done | with_reducible rfl)
   (try simp only [pu, pn, si, s0, sn])
   refine wpAny_take (i := 5) (v := ?_) (gt rfl) (by kernel_rfl) (by kernel_rfl) (by kernel_rfl) (fun c a w h => read_put (by intro k e; cases e; decide) h) (Or.inl ⟨by rfl, ?_⟩) ?_
   rotate_left
   focus (intro w; go_simp; first | done | with_reducible rfl)
   (try simp only [pu, pn, si, s0, sn])
   refine wpAny_take (i := 6) (v := ?_) (gt rfl) (by kernel_rfl) (by kernel_rfl) (by kernel_rfl) (fun c a w h => read_put (by intro k e; cases e; decide) h) (Or.inl ⟨by rfl, ?_⟩) ?_
   rotate_left
   focus (intro w; go_simp; first | done | with_reducible rfl)
   (try simp only [pu, pn, si, s0, sn])
   refine wpAny_take (i := 7) (v := ?_) (gt rfl) (by kernel_rfl) (by kernel_rfl) (by kernel_rfl) (fun c a w h => read_put (by intro k e; cases e; decide) h) (Or.inl ⟨by rfl, ?_⟩) ?_
   rotate_left
   focus (intro w; go_simp; first | done | with_reducible rfl)
   (try simp only [pu, pn, si, s0, sn])
   refine wpAny_take (i := 8) (v := ?_) (gt rfl) (by kernel_rfl) (by kernel_rfl) (by kernel_rfl) (fun c a w h => read_put (by intro k e; cases e; decide) h) (Or.inl ⟨by rfl, ?_⟩) ?_
   rotate_left
   focus (intro w; go_simp; first | done | with_reducible rfl)
   (try simp only [pu, pn, si, s0, sn])
   refine wpAny_take (i := 9) (v := ?_) (gt rfl) (by kernel_rfl) (by kernel_rfl) (by kernel_rfl) (fun c a w h => read_put (by intro k e; cases e; decide) h) (Or.inl ⟨by rfl, ?_⟩) ?_
   rotate_left
   focus (intro w; go_simp; first | done | with_reducible rfl)
   (try simp only [pu, pn, si, s0, sn])
   refine wpAny_take (i := 10) (v := ?_) (gt rfl) (by kernel_rfl) (by kernel_rfl) (by kernel_rfl) (fun c a w h => read_put (by intro k e; cases e; decide) h) (Or.inl ⟨by rfl, ?_⟩) ?_
   rotate_left
   focus (intro w; go_simp; first | done | with_reducible rfl)
   (try simp only [pu, pn, si, s0, sn])
   refine wpAny_take (i := 11) (v := ?_) (gt rfl) (by kernel_rfl) (by kernel_rfl) (by kernel_rfl) (fun c a w h => read_put (by intro k e; cases e; decide) h) (Or.inl ⟨by rfl, ?_⟩) ?_
   rotate_left
   focus (intro w; go_simp; first | done | with_reducible rfl)
   (try simp only [pu, pn, si, s0, sn])
   refine wpAny_ready (rs := [12]) (by kernel_rfl) (by simp) ?_
   refine AllReady.cons (i := 12) (gt rfl) (fun K hK => ?_) ?_
   ·go_simp
    refine hK _ _ ?_
    clear hK K
    (try simp only [pu, pn, si, s0, sn])
    refine wpAny_ready (rs := [13]) (by kernel_rfl) (by simp) ?_
    refine AllReady.cons (i := 13) (gt rfl) (fun K hK => ?_) ?_
    ·go_simp
     go_at_call 94
     refine (HN2.out _ W8.heap.size (by repeat (first | (with_reducible apply At.new'; (focus (simp; done))) | with_reducible apply At.al | with_reducible apply At.drw | with_reducible apply At.dr)) (by omega) (by repeat (first | with_reducible assumption | with_reducible exact Below.refl _ _ | with_reducible refine below_al ?_ _ | with_reducible refine below_drew ?_ | with_reducible refine below_drewN ?_ _ | with_reducible refine below_set ?_ (by dsimp only; omega) _))).mono ?_
     rintro e w3 ⟨rfl, h10, hb10⟩
     (try go_wp2_with fail)
     (try simp only [pu, pn, si, s0, sn])
     refine wpAny_done (by kernel_rfl) ?_ _
     go_wp2_with fail
     refine (HEn.out _ h10.out).mono ?_
     intro e w11 hq
     cases Ee with
     | error j2 =>
      obtain ⟨he6, hW⟩ := hq
      have hbe := hb10.out.trans hW
      have hX9 : readT ts = .error j2 := by rw [hrd2.out]; rfl
      subst he6
      unfold panE
      go_wp2_with fail
      exact hPAN.out _ _ _ (hbe) (hX9) rfl rfl rfl
     | ok j2 =>
      obtain ⟨rfl, h11, hb11⟩ := hq
      replace hb11 := Lib.hid (hb10.out.trans hb11)
      have hj2 := (end_lt hE hjl hEe.out).2
      obtain ⟨s2, hs2⟩ : ∃ s2 : Rd, s2 = ⟨j2, { ({ det0 with name := nm } : Det) with mem := n }, false⟩ := ⟨_, rfl⟩
      have h11 : RdW w11 R ts s2 p0 := by rw [hs2]; exact h11
      obtain ⟨Dl, hDl⟩ : ∃ D, linesT ts ts.length s2 = D := ⟨_, rfl⟩
      have hrd3 : readT ts = linesR Dl := by
       rw [hrd2.out, ← hDl, hs2]
       rfl
      have hge : Hid (∀ e, Dl = .error e → readT ts = .error e) := Lib.hid fun e q => by rw [hrd3, q]; rfl
      have hgo : Hid (∀ s', Dl = .ok s' → readT ts = if s'.ruled then .ok s'.d else .error s'.i) := Lib.hid fun s' q => by rw [hrd3, q]; rfl
      have hL0 : Hid (LinG ts Dl s2) := Lib.hid ⟨ts.length, by omega, hDl⟩
      have hm0 : Hid (manyD s2.d ≤ s2.i) := Lib.hid (by rw [hs2]; exact Nat.zero_le _)
      have hi20 : s2.i < ts.length := by rw [hs2]; exact hj2
      clear hrd3 hDl hs2 hrd2 HEn HN2 h10 hb10 hnl hjl hj2 hEe hRes h8 hb8 hR8 hR82 hi2 hRn hNM hi1
      replace h11 := Lib.hid h11
      replace h3 := Lib.hid h3
      go_wp2_with fail
      go_loopg [] (ts.length - s2.i) (fun g wr => ∃ (s : Rd) (p : PV), s.i < ts.length ∧ Hid (g = ts.length - s.i) ∧ Hid (LinG ts Dl s) ∧ Hid (manyD s.d ≤ s.i) ∧ Hid (RdW wr R ts s p) ∧ Hid (Below R W3 wr))
      case atStart => exact ⟨s2, p0, hi20, Lib.hid rfl, hL0, hm0, h11, hb11⟩
      case round =>
       clear hL0 hm0 hi20 h11 hb11
       obtain ⟨s, p, hsi, hg, hL, hm, hA, hbr⟩ := hrel
       have HN := nextH (R := R) (t := 139) s.i hsi
       have hf := field0
       obtain ⟨XS, _, eT⟩ := tkV_mk (tk ts s.i)
       rw [eT] at HN
       obtain ⟨K, hK⟩ : ∃ K, (tk ts s.i).kind = K := ⟨_, rfl⟩
       rw [hK] at HN
       generalize (tk ts s.i).line = L at HN
       generalize (tk ts s.i).col = C at HN
       clear eT
       by_cases hk5 : K = 5
       ·have hDo := hgo.out _ (hL.out.stop hsi (hK.trans hk5))
        subst hk5
        have HF : Hid (∀ w cs, TokR w R 139 cs ts s.i → Calls Tryz.prog 92 #[.pointer (some ⟨R, 0, none⟩)] w fun e w' => e = panE ts s.i ∧ Below w.heap.size w w') := Lib.hid fun w cs h => fail_any w R _ cs ts s.i h hsi
        clear hL hK hge hgo
        go_wp2_with fail
        refine (HN.out wr _ hA.out.tok).mono ?_
        rintro e w1 ⟨rfl, HB⟩
        have h12 := hA.out.bel HB
        have hb12 := hbr.out.trans (HB.mono (Nat.le_of_lt hA.out.tok.own.lt))
        have x21 : w1.cell? ⟨R, 21, none⟩ = some (.bool s.ruled) := by rw [h12.tok.own.c]; exact (rdC_get _ _).2.2.2.2.2.2.2.2.2.1
        clear HN HB hA hbr
        cases hru : s.ruled with
        | false =>
         rw [hru] at x21
         have hX9 : readT ts = .error s.i := by rw [hDo, hru]; rfl
         clear hDo
         go_wp2_with fail
         refine (HF.out _ _ h12.tok).mono ?_
         rintro e w6 ⟨he6, hb6⟩
         have hbe : Below R W3 w6 := hb12.trans (hb6.mono (Nat.le_of_lt h12.tok.own.lt))
         subst he6
         unfold panE
         go_wp2_with fail
         exact hPAN.out _ _ _ (hbe) (hX9) rfl rfl rfl
        | true =>
         rw [hru] at x21
         have hX9 : readT ts = .ok s.d := by rw [hDo, hru]; rfl
         clear hDo HF
         have hF12 := hF3.out.below hb12 hBR
         obtain ⟨q0, q1, hP12⟩ := hF12.p
         obtain ⟨q2, hE12⟩ := hF12.e
         have hrg := detC_at h12.tok.own
         have h1c := detC_one h12.vals
         have hRow : Hid (∀ W9, w1.setRow B (detC s.d p) = W9 → W9.cell? ⟨B + 1, 0, none⟩ = some q0 ∧ W9.cell? ⟨B + 1, 1, none⟩ = some q1 ∧ W9.cell? ⟨B + 1 + 1, 0, none⟩ = some q2 ∧ W9.frozen? ⟨B + 1, 0, none⟩ = false ∧ W9.frozen? ⟨B + 1, 1, none⟩ = false ∧ W9.frozen? ⟨B + 1 + 1, 0, none⟩ = false ∧ (∀ tmps : Array Value, tmps.getD 2 undef = .pointer (some ⟨B, 0, none⟩) → tmps.getD 3 undef = .pointer (some ⟨B + 1, 0, none⟩) → tmps.getD 4 undef = .pointer (some ⟨B + 2, 0, none⟩) → Leaves Tryz.prog Tryz.f58 tmps (ReadE (by_ S) w) [{ target := .fn (.func 89) #[.pointer (some ⟨B, 0, none⟩), .pointer (some ⟨B + 1, 0, none⟩), .pointer (some ⟨B + 2, 0, none⟩)], args := #[] }] .returning (((W9.setCell ⟨B + 1, 0, none⟩ (.int .i64 0)).setCell ⟨B + 1, 1, none⟩ (.int .i64 0)).setCell ⟨B + 1 + 1, 0, none⟩ (.int .i64 0)))) := Lib.hid fun W9 hW9 => by
          have kX9 : At W9 B 34 (detC s.d p) := by rw [← hW9]; exact setRow_heap w1 B _ _ _ _ hF12.x
          have kP9 : At W9 (B + 1) 43 #[q0, q1] := by rw [← hW9]; exact (setRow_other w1 B (B + 1) _ (by omega)).trans hP12
          have kE9 : At W9 (B + 1 + 1) 37 #[q2] := by rw [← hW9]; exact (setRow_other w1 B (B + 1 + 1) _ (by omega)).trans hE12
          have hB9 : Below B w W9 := by
           rw [← hW9]
           exact below_row (HB3.out.trans (hb12.mono (by omega))) (Nat.le_refl B) _
          refine ⟨kP9.c 0, kP9.c 1, kE9.c 0, kP9.f 0, kP9.f 1, kE9.f 0, fun tmps h2 h3 h4 => ?_⟩
          refine hRET0.out _ tmps s.d p hX9 (below_sc (below_sc (below_sc hB9 (by omega) 0 _) (by omega) 1 _) (by omega) 0 _) (((kX9.ne ⟨B + 1, 0, none⟩ _ (by simp)).ne ⟨B + 1, 1, none⟩ _ (by simp)).ne ⟨B + 1 + 1, 0, none⟩ _ (by simp; omega)) ?_ ?_ ?_ (fun b hb => by have := h12.young b hb; omega) h2 h3 h4
          ·have := ((kP9.put 0 (.int .i64 0)).put 1 (.int .i64 0)).ne ⟨B + 1 + 1, 0, none⟩ (.int .i64 0) (by simp)
           simpa using this
          ·have := ((kE9.ne ⟨B + 1, 0, none⟩ (.int .i64 0) (by simp)).ne ⟨B + 1, 1, none⟩ (.int .i64 0) (by simp)).put 0 (.int .i64 0)
           simpa using this
          ·refine h12.vals.keep fun b hb => ?_
           have hy := h12.young b hb
           rw [Below.heap_setCell _ _ _ b (by dsimp only; omega), Below.heap_setCell _ _ _ b (by dsimp only; omega), Below.heap_setCell _ _ _ b (by dsimp only; omega), ← hW9]
           exact setRow_other w1 B b _ (by omega)
         replace hF12 := Lib.hid hF12
         replace h12 := Lib.hid h12
         go_wp2_with (first | (refine wpList_load_mid rfl 34 (.tmp 102) rfl R 2 (by simp [Act.eval]) (detC s.d p).toList _ hrg Tryz.underlying34 rfl (by rw [Array.length_toList, detC_size]; kernel_rfl) ?_) | (refine wpList_store_row rfl 34 (.tmp 2) (.tmp 103) rfl B (detC s.d p) (by simp [Act.eval]) (by simp [Act.eval]) 34 zeroD hF12.out.x (by rw [detC_size]; kernel_rfl) (by rw [detC_size]; rfl) h1c ?_; generalize hW9 : World.setRow _ _ _ = W9; obtain ⟨z0, z1, z2, z3, z4, z5, z6⟩ := hRow.out W9 hW9) | fail)
         exact z6 _ rfl rfl rfl
       ·have hk5' : (tk ts s.i).kind ≠ 5 := by rw [hK]; exact hk5
        obtain ⟨Ro, hRo⟩ : ∃ r, otherT ts s = r := ⟨_, rfl⟩
        have HOt : Hid (∀ W, RdW W R ts s p → Below R W3 W → Calls Tryz.prog 96 #[.pointer (some ⟨R, 0, none⟩)] W (OthE ts R W Ro)) := Lib.hid fun W hW hb => by
         rw [← hRo]
         exact other_any W R ts s p hW hsi hE (hen.out W hb) (by have := hm.out; omega)
        clear hK
        go_wp2_with fail
        refine (HN.out wr _ hA.out.tok).mono ?_
        rintro e w1 ⟨rfl, HB⟩
        have h12 := hA.out.bel HB
        have hb12 := hbr.out.trans (HB.mono (Nat.le_of_lt hA.out.tok.own.lt))
        clear HN HB hA hbr
        go_wp2_with fail
        refine (HOt.out w1 h12 hb12).mono ?_
        intro e w2 hq
        cases Ro with
        | error j2 =>
         obtain ⟨he6, hW⟩ := hq
         have hbe := hb12.trans hW
         have hX9 : readT ts = .error j2 := hge.out _ (hL.out.bad hsi hk5' hRo)
         subst he6
         unfold panE
         go_wp2_with fail
         exact hPAN.out _ _ _ (hbe) (hX9) rfl rfl rfl
        | ok s' =>
         obtain ⟨rfl, ⟨p', h13⟩, hb13⟩ := hq
         obtain ⟨hu1, hu2, hu3⟩ := other_up hE hsi hRo hm.out
         have hL' := Lib.hid (hL.out.go hsi hk5' hRo hu1)
         go_wp2_with fail
         go_roundg (ts.length - s'.i)
         case measure => have := hg.out; omega
         case rel => exact ⟨s', p', hu2, Lib.hid rfl, hL', Lib.hid hu3, Lib.hid h13, Lib.hid (hb12.trans hb13)⟩
    exact AllReady.nil
   exact AllReady.nil
theorem read_any (S : ByteArray) (w : World) (he : Env w) : Calls Tryz.prog 58 #[.string S] w (ReadE (by_ S) w) := by
 by_cases h0 : (tokS (by_ S)).2.2 = 0
 ·exact read_good S w he h0
 ·exact read_bad S w h0
end Go.Proofs.YtccakklnbhcbdaaGreatDoor
