import Derived.Test.YtccakklnbhcbdaaGreatDoorFMTxt
import Derived.Test.YtccakklnbhcbdaaGreatDoorFSoZ
import Derived.Test.YtccakklnbhcbdaaGreatDoorFSxC
import Derived.Test.YtccakklnbhcbdaaGreatDoorFA
set_option linter.unusedVariables false
namespace Go.Proofs.YtccakklnbhcbdaaGreatDoor
theorem readS_bad (l : List UInt8) (h : (readS l).2.2 ≠ 0) : (readS l).1 = det0 := by
 unfold readS at h ⊢
 split
 ·rfl
 ·rename_i h0
  rw [if_neg h0] at h
  split at h
  ·exact absurd rfl h
  ·rfl
theorem readS_pos (l : List UInt8) (h : (readS l).2.2 = 0) : (readS l).2.1 = (0, 0) := by
 unfold readS at h ⊢
 split
 ·rename_i h0
  rw [if_pos h0] at h
  exact absurd h h0
 ·rename_i h0
  rw [if_neg h0] at h
  split at h
  ·rfl
  ·exact absurd (show (7 : Int) = 0 from h) (by decide)
theorem Det.sh.zero : det0.sh := ⟨rfl, fun n h => (by cases h), fun n h => (by cases h), rfl, fun n h => (by cases h), fun n h => (by cases h), fun n h => (by cases h), fun n h => (by cases h), Nat.zero_le _, fun n h => (by cases h), fun n h => (by cases h), fun n h => (by cases h)⟩
theorem Det.sh.put {d : Det} (h : d.sh) {w nm : List UInt8} {n : List Int} (hn : if w = wBar then 4 ≤ n.length else n.length = leastW w) (hw : 0 < leastW w) (hm : nm.length ≤ 1000000) : (putD d w nm n).sh := by
 have key : ∀ {α : Type} {P : α → Prop} {l : List α} {x : α}, (∀ y ∈ l, P y) → P x → ∀ y ∈ l ++ [x], P y := fun hl hx y hy => by
  rcases List.mem_append.1 hy with q | q
  ·exact hl y q
  ·rw [List.mem_singleton.1 q]; exact hx
 unfold putD
 split
 ·rename_i e; subst e; rw [if_neg (by decide)] at hn; exact { h with mem := hn, nm := hm }
 split
 ·rename_i e; subst e; rw [if_neg (by decide)] at hn; exact { h with boxes := key h.boxes hn }
 split
 ·rename_i e; subst e; rw [if_neg (by decide)] at hn; exact { h with holes := key h.holes hn }
 split
 ·rename_i e; subst e; rw [if_neg (by decide)] at hn; exact { h with rule := hn }
 split
 ·rename_i e; subst e; rw [if_pos rfl] at hn
  exact { h with bars := key h.bars (show 3 ≤ n.length by omega), bnm := key h.bnm hm }
 split
 ·rename_i e; subst e; rw [if_neg (by decide)] at hn; exact { h with runs := key h.runs hn, rnm := key h.rnm hm }
 split
 ·rename_i e; subst e; rw [if_neg (by decide)] at hn; exact { h with laps := key h.laps hn }
 split
 ·rename_i e; subst e; rw [if_neg (by decide)] at hn
  exact { h with dems := key h.dems ⟨hn, fun m hm => by cases hm⟩, dnm := key h.dnm hm }
 ·rename_i e1 e2 e3 e4 e5 e6 e7 e8
  have hs : w = wStep := by
   unfold leastW at hw
   rw [if_neg e1, if_neg e2, if_neg e3, if_neg e8, if_neg e4, if_neg e6, if_neg e5, if_neg e7] at hw
   split at hw
   ·assumption
   ·omega
  subst hs
  rw [if_neg (by decide)] at hn
  have hn2 : n.length = 2 := hn
  have hst : ∀ (l : List (List UInt8 × List Int × List (List Int))), (∀ x ∈ l, (x.2.1.length = 6 ∧ ∀ m ∈ x.2.2, m.length = 2) ∧ x.1.length ≤ 1000000) → ∀ x ∈ stepD l n, (x.2.1.length = 6 ∧ ∀ m ∈ x.2.2, m.length = 2) ∧ x.1.length ≤ 1000000 := by
   intro l
   induction l with
   | nil => intro _ x hx; cases hx
   | cons a r ih =>
    intro hl x hx
    cases r with
    | nil =>
     obtain ⟨a1, a2, a3⟩ := a
     have := hl _ (List.mem_cons_self)
     have hx : x = (a1, a2, a3 ++ [n]) := by simpa [stepD] using hx
     subst hx
     exact ⟨⟨this.1.1, key this.1.2 hn2⟩, this.2⟩
    | cons b r =>
     have hx : x = a ∨ x ∈ stepD (b :: r) n := by simpa [stepD] using hx
     rcases hx with rfl | hx
     ·exact hl _ (List.mem_cons_self)
     ·exact ih (fun y hy => hl y (List.mem_cons_of_mem _ hy)) x hx
  have hall := hst d.dems fun x hx => ⟨h.dems x hx, h.dnm x hx⟩
  exact { h with dems := fun x hx => (hall x hx).1, dnm := fun x hx => (hall x hx).2 }
theorem line_len {ts : List Tk} {w : List UInt8} {i : Nat} {l : List Int} {j : Nat} (h : lineT ts w i = .ok (l, j)) : if w = wBar then 4 ≤ l.length else l.length = leastW w := by
 unfold lineT at h
 split at h
 ·cases h
 ·rename_i l1 j1 h1
  have a := nums_len ts _ _ h1
  split at h
  ·rename_i hb
   split at h
   ·cases h
   ·injection h with h
    injection h with h _
    rw [if_pos hb, ← h, List.length_append, a, hb]
    exact Nat.le_add_right _ _
  ·rename_i hb
   injection h with h
   injection h with h _
   rw [if_neg hb, ← h, a]
theorem body_sh {ts : List Tk} (hE : Ends ts) {w : List UInt8} {s s' : Rd} (hi : s.i + 1 < ts.length) (hw : 0 < leastW w) (h : bodyT ts w s = .ok s') (hs : s.d.sh) : s'.d.sh := by
 unfold bodyT at h
 split at h
 ·cases h
 ·rename_i nm i h1
  have hm : nm.length ≤ 1000000 := by
   split at h1
   ·unfold nameT at h1
    split at h1
    ·injection h1 with h1
     injection h1 with h1 _
     rw [← h1]
     exact hE.txt _ hi
    ·cases h1
   ·injection h1 with h1
    injection h1 with h1 _
    rw [← h1]
    exact Nat.zero_le _
  split at h
  ·cases h
  ·rename_i n j h2
   split at h
   ·cases h
   ·injection h with h
    subst h
    exact hs.put (line_len h2) hw hm
theorem lines_sh {ts : List Tk} (hE : Ends ts) : ∀ (f : Nat) (s s' : Rd), linesT ts f s = .ok s' → s.i < ts.length → manyD s.d ≤ s.i → s.d.sh → s'.d.sh
 | 0, s, s', h, _, _, hs => by
  rw [linesT] at h
  injection h with h
  exact h ▸ hs
 | f + 1, s, s', h, hi, hm, hs => by
  rw [linesT] at h
  split at h
  ·injection h with h
   exact h ▸ hs
  ·split at h
   ·cases h
   ·rename_i s1 h1
    obtain ⟨u1, u2, u3⟩ := other_up hE hi h1 hm
    refine lines_sh hE f s1 s' h u2 u3 ?_
    unfold otherT at h1
    split at h1
    ·rename_i hw
     have hk : (tk ts s.i).kind = 1 ∧ 0 < leastW (tk ts s.i).text := by
      unfold wordOk at hw
      simp only [Bool.and_eq_true, decide_eq_true_eq] at hw
      exact ⟨hw.1.1.1.1, hw.1.1.1.2⟩
     exact body_sh hE (hE.more s.i hi (by rw [hk.1]; decide)) hk.2 h1 hs
    ·cases h1
theorem readS_sh (l : List UInt8) : (readS l).1.sh := by
 by_cases h0 : (tokS l).2.2 = 0
 ·obtain ⟨hE, hpos, -, -⟩ := tokS_ends h0
  cases hr : readT (tokS l).1 with
  | error j => rw [readS_err h0 hr]; exact Det.sh.zero
  | ok d =>
   rw [readS_ok h0 hr]
   generalize (tokS l).1 = ts at *
   have hi0 := (skip_lt hE ts.length 0 hpos).2
   by_cases hy : (tk ts (skipT ts ts.length 0)).kind = 1 ∧ (tk ts (skipT ts ts.length 0)).text = wMember
   ·rw [readT_yes hy] at hr
    have hi1 := hE.more _ hi0 (by rw [hy.1]; decide)
    cases hb : bodyT ts wMember ⟨skipT ts ts.length 0, det0, false⟩ with
    | error e => rw [hb] at hr; cases hr
    | ok s =>
     rw [hb] at hr
     have hs := body_sh hE (s := ⟨skipT ts ts.length 0, det0, false⟩) hi1 (by decide) hb Det.sh.zero
     have hu := body_up hE (s := ⟨skipT ts ts.length 0, det0, false⟩) hi1 hb (Nat.zero_le _)
     have hr : linesR (linesT ts ts.length s) = .ok d := hr
     cases hl : linesT ts ts.length s with
     | error e => rw [hl] at hr; cases hr
     | ok s' =>
      rw [hl] at hr
      have := lines_sh hE _ _ _ hl hu.2.1 hu.2.2 hs
      have hr : (if s'.ruled then Except.ok s'.d else .error s'.i) = .ok d := hr
      split at hr
      ·injection hr with hr
       exact hr ▸ this
      ·cases hr
   ·rw [readT_no hy] at hr
    cases hr
 ·rw [readS_of_tok h0]
  exact Det.sh.zero
theorem srcS_sh (l : List UInt8) : (srcS l).1.sh := by
 unfold srcS
 split
 ·exact readS_sh l
 ·split
  ·exact readS_sh l
  ·exact Det.sh.zero
end Go.Proofs.YtccakklnbhcbdaaGreatDoor
set_option linter.unusedVariables false
set_option linter.unusedSimpArgs false
namespace Go.Proofs.YtccakklnbhcbdaaGreatDoor
open Go.ChangeShapes Go.WideShapes Go.ChangeAt Go.RowKit
def ParE (l : List UInt8) (w : World) (e : Ending) (w' : World) : Prop :=
 ∃ p, e = .returned (.tuple #[.agg (detC (srcS l).1 p), .agg #[.int .i64 (srcS l).2.1.1, .int .i64 (srcS l).2.1.2], .int .i64 (srcS l).2.2]) ∧ DetV w' (srcS l).1 p ∧ Below w.heap.size w w'
theorem detV_nil (w : World) (v : Value) : DetV w det0 (nilP v) := (rdV_nil w v).view
theorem parse_results (tmps : Array Value) (w : World) (B : Nat) (cx cp : Array Value) (r : Value) (h2 : tmps.getD 2 undef = .pointer (some ⟨B, 0, none⟩)) (h3 : tmps.getD 3 undef = .pointer (some ⟨B + 1, 0, none⟩)) (h4 : tmps.getD 4 undef = r)
  (hX : At w B 34 cx) (sx : cx.size = 19) (hP : At w (B + 1) 43 cp) (sp : cp.size = 2) : (results Tryz.f18 tmps).run Tryz.prog w = .ok (.tuple #[.agg cx, .agg cp, r]) w := by
 have e1 := run_loadVar_row (P := Tryz.prog) w B 34 34 cx (0, 0) _ hX Tryz.underlying34 rfl (by rw [sx]; kernel_rfl)
 have e2 := run_loadVar_row (P := Tryz.prog) w (B + 1) 43 43 cp (0, 0) _ hP Tryz.underlying43 rfl (by rw [sp]; kernel_rfl)
 have h2' : tmps[2]?.getD undef = .pointer (some ⟨B, 0, none⟩) := by simpa using h2
 have h3' : tmps[3]?.getD undef = .pointer (some ⟨B + 1, 0, none⟩) := by simpa using h3
 have h4' : tmps[4]?.getD undef = r := by simpa using h4
 simp [results, Tryz.results18, h2', h3', h4', asAddr, e1, e2]
theorem At.row {w : World} {g h : Nat} {t : TypeId} {cs xs : Array Value} (k : At w g t cs) (hn : g ≠ h) : At (w.setRow h xs) g t cs := (setRow_other w h g xs hn).trans k
theorem At.rowAt {w : World} {g : Nat} {t : TypeId} {cs xs : Array Value} (k : At w g t cs) : At (w.setRow g xs) g t xs := setRow_heap w g cs xs t (0, 0) k
set_option maxRecDepth 100000 in
set_option maxHeartbeats 2000000 in
theorem parse_any (S : ByteArray) (w : World) (he : Env w) : Calls Tryz.prog 18 #[.string S] w (ParE (by_ S) w) := by
 go_enter Tryz.func18, Tryz.ntmps18
 go_upto_region 1 with fail
 generalize hW0 : World.alloc (World.alloc w _) _ = W0
 have kB0 : At W0 w.heap.size 34 zeroD := by unfold zeroD; rw [← hW0]; repeat (first | (with_reducible apply At.new'; (focus (simp; done))) | with_reducible apply At.al | with_reducible apply At.drw | with_reducible apply At.dr)
 have kP0 : At W0 (w.heap.size + 1) 43 #[.int .i64 0, .int .i64 0] := by rw [← hW0]; repeat (first | (with_reducible apply At.new'; (focus (simp; done))) | with_reducible apply At.al | with_reducible apply At.drw | with_reducible apply At.dr)
 have HB0 : Below w.heap.size w W0 := by rw [← hW0]; repeat (first | with_reducible assumption | with_reducible exact Below.refl _ _ | with_reducible refine below_al ?_ _ | with_reducible refine below_drew ?_ | with_reducible refine below_drewN ?_ _ | with_reducible refine below_set ?_ (by dsimp only; omega) _)
 clear hW0
 have HR := Lib.hid (read_any S W0 (he.bel HB0))
 obtain ⟨B, hB⟩ : ∃ B, w.heap.size = B := ⟨_, rfl⟩
 rw [hB] at kB0 kP0 HB0 ⊢
 go_wp2_with fail
 refine HR.out.mono ?_
 rintro e w1 ⟨p, rfl, hV, hy, HB1⟩
 have kB1 := kB0.bel HB1
 have kP1 := kP0.bel HB1
 have HBw := Lib.hid (HB0.trans (HB1.mono (by have := kB0.lt; omega)))
 have hsrc : Hid (srcS (by_ S) = if (readS (by_ S)).2.2 ≠ 0 then readS (by_ S) else if wrD (readS (by_ S)).1 then readS (by_ S) else (det0, (0, 0), 1)) := Lib.hid rfl
 have hbad : Hid ((readS (by_ S)).2.2 ≠ 0 → (readS (by_ S)).1 = det0) := Lib.hid (readS_bad _)
 have hpos0 : Hid ((readS (by_ S)).2.2 = 0 → (readS (by_ S)).2.1 = (0, 0)) := Lib.hid (readS_pos _)
 have hshd : Hid ((readS (by_ S)).1.sh) := Lib.hid (readS_sh _)
 generalize hSR : srcS (by_ S) = SR at *
 replace hSR := Lib.hid hSR
 have h1c := detC_one hV
 have hsz := detC_size (readS (by_ S)).1 p
 have hDV := Lib.hid hV.view
 have hyB : Hid (∀ b, some b ∈ p.fp → B < b ∧ b < w1.heap.size) := Lib.hid fun b hb => ⟨by have := hy b hb; have := kP0.lt; omega, hV.lt hb⟩
 have hV1 := Lib.hid hV
 have hPl := kP1.lt
 clear HR hV hy HB1 kB0 kP0 HB0 he
 obtain ⟨X, hX⟩ : ∃ X, w1.heap.size = X := ⟨_, rfl⟩
 have hRow : Hid (∀ W9, ((w1.alloc (.cells zeroD 34)).alloc (.cells #[.int .i64 0, .int .i64 0] 43)).setRow X (detC (readS (by_ S)).1 p) = W9 → At W9 X 34 (detC (readS (by_ S)).1 p) ∧ At W9 (X + 1) 43 #[.int .i64 0, .int .i64 0] ∧ At W9 B 34 zeroD ∧ At W9 (B + 1) 43 #[.int .i64 0, .int .i64 0] ∧ Hid (Below X w1 W9)) := Lib.hid fun W9 e => by
  have a0 : At ((w1.alloc (.cells zeroD 34)).alloc (.cells #[.int .i64 0, .int .i64 0] 43)) X 34 zeroD := (At.new' hX.symm).al _
  have a1 : At ((w1.alloc (.cells zeroD 34)).alloc (.cells #[.int .i64 0, .int .i64 0] 43)) (X + 1) 43 #[.int .i64 0, .int .i64 0] := At.new' (by simp [hX])
  rw [← e]
  refine ⟨a0.rowAt, a1.row (by omega), ((kB1.al _).al _).row (by omega), ((kP1.al _).al _).row (by omega), Lib.hid (below_row ?_ (Nat.le_refl X) _)⟩
  rw [← hX]
  exact below_al (below_al (Below.refl _ _) _) _
 have hz0 : Hid (At ((w1.alloc (.cells zeroD 34)).alloc (.cells #[.int .i64 0, .int .i64 0] 43)) X 34 zeroD) := Lib.hid ((At.new' hX.symm).al _)
 generalize readS (by_ S) = RS at *
 obtain ⟨d, ⟨L, C⟩, E⟩ := RS
 dsimp only at *
 go_upto_region 2 with (first | (refine wpList_store_row rfl 34 (.tmp 5) (.tmp 11) rfl X (detC d p) (by simp [Act.eval, hX]) (by simp [Act.eval]) 34 zeroD hz0.out (by rw [hsz]; kernel_rfl) (by rw [hsz]; rfl) h1c ?_; generalize hW9 : World.setRow _ _ _ = W9; obtain ⟨kX, kQ, kB, kP, hb9⟩ := hRow.out W9 hW9; have y0 : W9.cell? ⟨X + 1, 0, none⟩ = some (.int .i64 0) := kQ.c 0; have y1 : W9.cell? ⟨X + 1, 1, none⟩ = some (.int .i64 0) := kQ.c 1; have yf0 : W9.frozen? ⟨X + 1, 0, none⟩ = false := kQ.f 0; have yf1 : W9.frozen? ⟨X + 1, 1, none⟩ = false := kQ.f 1) | fail)
 generalize hW2 : World.setCell (World.setCell W9 _ _) _ _ = W2
 have kX2 : At W2 X 34 (detC d p) := by rw [← hW2]; exact (kX.ne ⟨X + 1, 0, none⟩ _ (by simp)).ne ⟨X + 1, 1, none⟩ _ (by simp)
 have kB2 : At W2 B 34 zeroD := by rw [← hW2]; exact (kB.ne ⟨X + 1, 0, none⟩ _ (by dsimp only; omega)).ne ⟨X + 1, 1, none⟩ _ (by dsimp only; omega)
 have kP2 : At W2 (B + 1) 43 #[.int .i64 0, .int .i64 0] := by rw [← hW2]; exact (kP.ne ⟨X + 1, 0, none⟩ _ (by dsimp only; omega)).ne ⟨X + 1, 1, none⟩ _ (by dsimp only; omega)
 have kQ2 : At W2 (X + 1) 43 #[.int .i64 L, .int .i64 C] := by
  rw [← hW2]
  have := (kQ.put 0 (.int .i64 L)).put 1 (.int .i64 C)
  simpa using this
 have hb2 : Below X w1 W2 := by rw [← hW2]; exact below_sc (below_sc hb9.out (by omega) 0 _) (by omega) 1 _
 have hDV2 := Lib.hid (hDV.out.up (w' := W2) (by rw [hX]; exact hb2))
 have hV2 : Hid (RdV W2 d p) := Lib.hid (hV1.out.keep fun b hb => hb2.block b (by have := (hyB.out b hb).2; omega))
 have HB2 := Lib.hid (HBw.out.trans (hb2.mono (by omega)))
 have hXB : B + 1 < X := by omega
 clear hW2 hW9 kX kQ kB kP hb9 y0 y1 yf0 yf1 kB1 kP1 HBw hRow hz0 hDV hX hb2 hPl
 have p0 : W2.cell? ⟨B + 1, 0, none⟩ = some (.int .i64 0) := kP2.c 0
 have p1 : W2.cell? ⟨B + 1, 1, none⟩ = some (.int .i64 0) := kP2.c 1
 have pf0 : W2.frozen? ⟨B + 1, 0, none⟩ = false := kP2.f 0
 have pf1 : W2.frozen? ⟨B + 1, 1, none⟩ = false := kP2.f 1
 have q0 : W2.cell? ⟨X + 1, 0, none⟩ = some (.int .i64 L) := kQ2.c 0
 have q1 : W2.cell? ⟨X + 1, 1, none⟩ = some (.int .i64 C) := kQ2.c 1
 by_cases hE : E = 0
 rotate_left
 ·have hd := hbad.out hE
  have hS : Hid (SR = (det0, (L, C), E)) := Lib.hid (by rw [hsrc.out, if_pos hE, hd])
  have hne : (E != 0) = true := by simp [hE]
  have hFin : Hid (∀ tmps : Array Value, tmps.getD 2 undef = .pointer (some ⟨B, 0, none⟩) → tmps.getD 3 undef = .pointer (some ⟨B + 1, 0, none⟩) → tmps.getD 4 undef = .int .i64 E → (results Tryz.f18 tmps).run Tryz.prog (((W2.setCell ⟨B + 1, 0, none⟩ (.int .i64 L)).setCell ⟨B + 1, 1, none⟩ (.int .i64 C)).drew) = .ok (.tuple #[.agg zeroD, .agg #[.int .i64 L, .int .i64 C], .int .i64 E]) (((W2.setCell ⟨B + 1, 0, none⟩ (.int .i64 L)).setCell ⟨B + 1, 1, none⟩ (.int .i64 C)).drew)) := Lib.hid fun tmps h2 h3 h4 =>
   parse_results tmps _ B _ _ _ h2 h3 h4 (((kB2.ne ⟨B + 1, 0, none⟩ _ (by simp)).ne ⟨B + 1, 1, none⟩ _ (by simp)).drw) rfl (At.drw (by
    have := (kP2.put 0 (.int .i64 L)).put 1 (.int .i64 C)
    simpa using this)) rfl
  have hPost : Hid (∃ p, Ending.returned (.tuple #[.agg zeroD, .agg #[.int .i64 L, .int .i64 C], .int .i64 E]) = .returned (.tuple #[.agg (detC SR.1 p), .agg #[.int .i64 SR.2.1.1, .int .i64 SR.2.1.2], .int .i64 SR.2.2]) ∧ DetV (((W2.setCell ⟨B + 1, 0, none⟩ (.int .i64 L)).setCell ⟨B + 1, 1, none⟩ (.int .i64 C)).drew) SR.1 p ∧ Below w.heap.size w (((W2.setCell ⟨B + 1, 0, none⟩ (.int .i64 L)).setCell ⟨B + 1, 1, none⟩ (.int .i64 C)).drew)) := Lib.hid ⟨nilP undef, by rw [hS.out, detC_zero], by rw [hS.out]; exact detV_nil _ _, by
   rw [hB]
   exact below_drew (below_sc (below_sc HB2.out (by omega) 0 _) (by omega) 1 _)⟩
  clear hd hsrc hbad hDV2 hS kX2 kQ2 kP2
  go_wp2_with fail
  refine wp_region_noPanic ?_
  refine wp_region_any (by kernel_rfl) ?_
  (try (change wpAny _ _ _ _ _ _ _ (World.drew _)))
  refine wpAny_take (i := 0) (v := ?_) (gt rfl) (by kernel_rfl) (by kernel_rfl) (by kernel_rfl) (fun _ _ _ h => h) (Or.inl ⟨by rfl, ?_⟩) ?_
  rotate_left
  focus (intro w; go_simp; first | done | with_reducible rfl)
  (try simp only [pu, pn, si, s0, sn])
  refine wpAny_take (i := 2) (v := ?_) (gt rfl) (by kernel_rfl) (by kernel_rfl) (by kernel_rfl) (fun _ _ _ h => h) (Or.inl ⟨by rfl, ?_⟩) ?_
  rotate_left
  focus (intro w; go_simp; first | done | with_reducible rfl)
  (try simp only [pu, pn, si, s0, sn])
  refine wpAny_ready (rs := [1, 3]) (by kernel_rfl) (by simp) ?_
  refine AllReady.cons (i := 1) (gt rfl) (fun K hK => ?_) ?_
  ·go_simp
   refine hK _ _ ?_
   clear hK K
   (try simp only [pu, pn, si, s0, sn])
   refine wpAny_ready (rs := [3]) (by kernel_rfl) (by simp) ?_
   refine AllReady.cons (i := 3) (gt rfl) (fun K hK => ?_) ?_
   ·refine step_store_same rfl 34 (.tmp 2) (.tmp 17) rfl B zeroD (by simp [Act.eval]) (by simp [Act.eval, zeroD]) 34 (by repeat (first | exact kB2 | with_reducible apply At.al | with_reducible apply At.drw)) (by kernel_rfl) (by kernel_rfl) ?_
    refine hK _ _ ?_
    clear hK K
    (try simp only [pu, pn, si, s0, sn])
    refine wpAny_ready (rs := [4]) (by kernel_rfl) (by simp) ?_
    refine AllReady.cons (i := 4) (gt rfl) (fun K hK => ?_) ?_
    ·go_simp
     refine hK _ _ ?_
     clear hK K
     (try simp only [pu, pn, si, s0, sn])
     refine wpAny_ready (rs := [5]) (by kernel_rfl) (by simp) ?_
     refine AllReady.cons (i := 5) (gt rfl) (fun K hK => ?_) ?_
     ·go_simp
      refine hK _ _ ?_
      clear hK K
      (try simp only [pu, pn, si, s0, sn])
      refine wpAny_done (by kernel_rfl) ?_ _
      refine NoPanic.normal ?_
      go_wp2_with fail
      exact bodyPost_ret (hFin.out _ rfl rfl rfl) rfl (by unfold ParE; rw [hSR.out]; exact hPost.out)
     exact AllReady.nil
    exact AllReady.nil
   exact AllReady.nil
  refine AllReady.cons (i := 3) (gt rfl) (fun K hK => ?_) ?_
  ·refine step_store_same rfl 34 (.tmp 2) (.tmp 17) rfl B zeroD (by simp [Act.eval]) (by simp [Act.eval, zeroD]) 34 (by repeat (first | exact kB2 | with_reducible apply At.al | with_reducible apply At.drw)) (by kernel_rfl) (by kernel_rfl) ?_
   refine hK _ _ ?_
   clear hK K
   (try simp only [pu, pn, si, s0, sn])
   refine wpAny_ready (rs := [1]) (by kernel_rfl) (by simp) ?_
   refine AllReady.cons (i := 1) (gt rfl) (fun K hK => ?_) ?_
   ·go_simp
    refine hK _ _ ?_
    clear hK K
    (try simp only [pu, pn, si, s0, sn])
    refine wpAny_ready (rs := [4]) (by kernel_rfl) (by simp) ?_
    refine AllReady.cons (i := 4) (gt rfl) (fun K hK => ?_) ?_
    ·go_simp
     refine hK _ _ ?_
     clear hK K
     (try simp only [pu, pn, si, s0, sn])
     refine wpAny_ready (rs := [5]) (by kernel_rfl) (by simp) ?_
     refine AllReady.cons (i := 5) (gt rfl) (fun K hK => ?_) ?_
     ·go_simp
      refine hK _ _ ?_
      clear hK K
      (try simp only [pu, pn, si, s0, sn])
      refine wpAny_done (by kernel_rfl) ?_ _
      refine NoPanic.normal ?_
      go_wp2_with fail
      exact bodyPost_ret (hFin.out _ rfl rfl rfl) rfl (by unfold ParE; rw [hSR.out]; exact hPost.out)
     exact AllReady.nil
    exact AllReady.nil
   exact AllReady.nil
  exact AllReady.nil
 ·subst hE
  obtain ⟨rfl, rfl⟩ : L = 0 ∧ C = 0 := by
   have := hpos0.out rfl
   injection this with a b
   exact ⟨a, b⟩
  have HWr := Lib.hid (writable_any d p hshd.out W2 hDV2.out)
  have hS1 : Hid (wrD d = true → SR = (d, (0, 0), 0)) := Lib.hid fun h => by rw [hsrc.out, if_neg (by decide), if_pos h]
  have hS0 : Hid (wrD d = false → SR = (det0, (0, 0), 1)) := Lib.hid fun h => by rw [hsrc.out, if_neg (by decide), h]; rfl
  generalize wrD d = b at *
  clear hsrc hbad q0 q1 kQ2
  go_wp2_with (first | (refine wpList_load_row rfl 34 (.tmp 5) rfl X (by simp [Act.eval]) 34 (detC d p) (0, 0) _ kX2 Tryz.underlying34 rfl (by rw [hsz]; kernel_rfl) ?_) | fail)
  refine HWr.out.mono ?_
  rintro e w3 ⟨rfl, HB3⟩
  have kX3 := kX2.bel HB3
  have kB3 := kB2.bel HB3
  have kP3 := kP2.bel HB3
  have hV3 : RdV w3 d p := hV2.out.keep fun b hb => HB3.block b (hV2.out.lt hb)
  have HBf := HB2.out.trans (HB3.mono (by have := kB2.lt; omega))
  have hBl := kB3.lt
  clear HWr HB3 kX2 kB2 kP2 hDV2 HB2 p0 p1 pf0 pf1
  cases b with
  | false =>
   have hS := Lib.hid (hS0.out rfl)
   have p0 : w3.cell? ⟨B + 1, 0, none⟩ = some (.int .i64 0) := kP3.c 0
   have p1 : w3.cell? ⟨B + 1, 1, none⟩ = some (.int .i64 0) := kP3.c 1
   have pf0 : w3.frozen? ⟨B + 1, 0, none⟩ = false := kP3.f 0
   have pf1 : w3.frozen? ⟨B + 1, 1, none⟩ = false := kP3.f 1
   have s0 : w3.setCell ⟨B + 1, 0, none⟩ (.int .i64 0) = w3 := kP3.setSelf rfl
   have s1 : w3.setCell ⟨B + 1, 1, none⟩ (.int .i64 0) = w3 := kP3.setSelf rfl
   have hFin : Hid (∀ tmps : Array Value, tmps.getD 2 undef = .pointer (some ⟨B, 0, none⟩) → tmps.getD 3 undef = .pointer (some ⟨B + 1, 0, none⟩) → tmps.getD 4 undef = .int .i64 1 → (results Tryz.f18 tmps).run Tryz.prog w3 = .ok (.tuple #[.agg zeroD, .agg #[.int .i64 0, .int .i64 0], .int .i64 1]) w3) := Lib.hid fun tmps h2 h3 h4 => parse_results tmps _ B _ _ _ h2 h3 h4 kB3 rfl kP3 rfl
   have hPost : Hid (∃ p, Ending.returned (.tuple #[.agg zeroD, .agg #[.int .i64 0, .int .i64 0], .int .i64 1]) = .returned (.tuple #[.agg (detC SR.1 p), .agg #[.int .i64 SR.2.1.1, .int .i64 SR.2.1.2], .int .i64 SR.2.2]) ∧ DetV w3 SR.1 p ∧ Below w.heap.size w w3) := Lib.hid ⟨nilP undef, by rw [hS.out, detC_zero], by rw [hS.out]; exact detV_nil _ _, by rw [hB]; exact HBf⟩
   clear hV3 HBf hS hS0 hS1
   go_wp2_with (first | (refine wpList_store_row rfl 34 (.tmp 2) (.tmp 24) rfl B zeroD (by simp [Act.eval]) (by simp [Act.eval, zeroD]) 34 zeroD kB3 (by kernel_rfl) rfl (by kernel_rfl) ?_; rw [At.rowSelf kB3]) | fail)
   exact bodyPost_ret (hFin.out _ rfl rfl rfl) rfl (by unfold ParE; rw [hSR.out]; exact hPost.out)
  | true =>
   have hS := Lib.hid (hS1.out rfl)
   have hRow : Hid (∀ W9, w3.setRow B (detC d p) = W9 → W9.cell? ⟨B + 1, 0, none⟩ = some (.int .i64 0) ∧ W9.cell? ⟨B + 1, 1, none⟩ = some (.int .i64 0) ∧ W9.frozen? ⟨B + 1, 0, none⟩ = false ∧ W9.frozen? ⟨B + 1, 1, none⟩ = false ∧ W9.setCell ⟨B + 1, 0, none⟩ (.int .i64 0) = W9 ∧ W9.setCell ⟨B + 1, 1, none⟩ (.int .i64 0) = W9 ∧ (∀ tmps : Array Value, tmps.getD 2 undef = .pointer (some ⟨B, 0, none⟩) → tmps.getD 3 undef = .pointer (some ⟨B + 1, 0, none⟩) → tmps.getD 4 undef = .int .i64 0 → (results Tryz.f18 tmps).run Tryz.prog W9 = .ok (.tuple #[.agg (detC d p), .agg #[.int .i64 0, .int .i64 0], .int .i64 0]) W9) ∧ Hid (∃ p', Ending.returned (.tuple #[.agg (detC d p), .agg #[.int .i64 0, .int .i64 0], .int .i64 0]) = .returned (.tuple #[.agg (detC SR.1 p'), .agg #[.int .i64 SR.2.1.1, .int .i64 SR.2.1.2], .int .i64 SR.2.2]) ∧ DetV W9 SR.1 p' ∧ Below w.heap.size w W9)) := Lib.hid fun W9 e => by
    have kP9 : At W9 (B + 1) 43 #[.int .i64 0, .int .i64 0] := by rw [← e]; exact kP3.row (by omega)
    have kB9 : At W9 B 34 (detC d p) := by rw [← e]; exact kB3.rowAt
    have hb9 : Below B w W9 := by rw [← e]; exact below_row HBf (Nat.le_refl B) _
    refine ⟨kP9.c 0, kP9.c 1, kP9.f 0, kP9.f 1, kP9.setSelf rfl, kP9.setSelf rfl, fun tmps h2 h3 h4 => parse_results tmps _ B _ _ _ h2 h3 h4 kB9 hsz kP9 rfl, Lib.hid ⟨p, by rw [hS.out], ?_, by rw [hB]; exact hb9⟩⟩
    rw [hS.out]
    exact (hV3.keep fun b hb => by rw [← e]; exact setRow_other w3 B b _ (by have := (hyB.out b hb).1; omega)).view
   clear hV3 HBf hS hS0 hS1 kP3
   go_wp2_with (first | (refine wpList_load_row rfl 34 (.tmp 5) rfl X (by simp [Act.eval]) 34 (detC d p) (0, 0) _ kX3 Tryz.underlying34 rfl (by rw [hsz]; kernel_rfl) ?_) | (refine wpList_store_row rfl 34 (.tmp 2) (.tmp 26) rfl B (detC d p) (by simp [Act.eval]) (by simp [Act.eval]) 34 zeroD kB3 (by rw [hsz]; kernel_rfl) (by rw [hsz]; rfl) h1c ?_; generalize hW9 : World.setRow _ _ _ = W9; obtain ⟨z0, z1, z2, z3, z4, z5, z6, z7⟩ := hRow.out W9 hW9) | fail)
   exact bodyPost_ret (z6 _ rfl rfl rfl) rfl (by unfold ParE; rw [hSR.out]; exact z7.out)
end Go.Proofs.YtccakklnbhcbdaaGreatDoor
set_option linter.unusedVariables false
set_option linter.unusedSimpArgs false
namespace Go.Proofs.YtccakklnbhcbdaaGreatDoor
open Go.ChangeShapes Go.WideShapes Go.ChangeAt Go.RowKit
theorem two_new {w1 : World} {d : Det} {p : PV} {L C : Int} (hDV : DetV w1 d p) (V W2 : World) (eV : ((w1.alloc (.cells zeroD 34)).alloc (.cells #[.int .i64 0, .int .i64 0] 43)).setRow w1.heap.size (detC d p) = V) (e : (V.setCell ⟨w1.heap.size + 1, 0, none⟩ (.int .i64 L)).setCell ⟨w1.heap.size + 1, 1, none⟩ (.int .i64 C) = W2) :
  At W2 w1.heap.size 34 (detC d p) ∧ At W2 (w1.heap.size + 1) 43 #[.int .i64 L, .int .i64 C] ∧ DetV W2 d p ∧ Below w1.heap.size w1 W2 := by
 have a0 : At ((w1.alloc (.cells zeroD 34)).alloc (.cells #[.int .i64 0, .int .i64 0] 43)) w1.heap.size 34 zeroD := (At.new' rfl).al _
 have a1 : At ((w1.alloc (.cells zeroD 34)).alloc (.cells #[.int .i64 0, .int .i64 0] 43)) (w1.heap.size + 1) 43 #[.int .i64 0, .int .i64 0] := At.new' (by simp)
 have b : Below w1.heap.size w1 W2 := by
  rw [← e, ← eV]
  exact below_sc (below_sc (below_row (below_al (below_al (Below.refl _ _) _) _) (Nat.le_refl _) _) (by omega) 0 _) (by omega) 1 _
 refine ⟨?_, ?_, hDV.up b, b⟩
 ·rw [← e, ← eV]
  exact (a0.rowAt.ne ⟨w1.heap.size + 1, 0, none⟩ _ (by simp)).ne ⟨w1.heap.size + 1, 1, none⟩ _ (by simp)
 ·rw [← e, ← eV]
  have := ((a1.row (h := w1.heap.size) (xs := detC d p) (by omega)).put 0 (.int .i64 L)).put 1 (.int .i64 C)
  simpa using this
theorem row_new {w1 : World} (d : Det) (p : PV) : Hid (At ((w1.alloc (.cells zeroD 34)).alloc (.cells #[.int .i64 0, .int .i64 0] 43)) w1.heap.size 34 zeroD) := Lib.hid ((At.new' rfl).al _)
theorem row_pos {w1 : World} (cs : Array Value) : Hid (∀ V, ((w1.alloc (.cells zeroD 34)).alloc (.cells #[.int .i64 0, .int .i64 0] 43)).setRow w1.heap.size cs = V → V.cell? ⟨w1.heap.size + 1, 0, none⟩ = some (.int .i64 0) ∧ V.cell? ⟨w1.heap.size + 1, 1, none⟩ = some (.int .i64 0) ∧ V.frozen? ⟨w1.heap.size + 1, 0, none⟩ = false ∧ V.frozen? ⟨w1.heap.size + 1, 1, none⟩ = false) := Lib.hid fun V e => by
 have a1 : At ((w1.alloc (.cells zeroD 34)).alloc (.cells #[.int .i64 0, .int .i64 0] 43)) (w1.heap.size + 1) 43 #[.int .i64 0, .int .i64 0] := At.new' (by simp)
 have a2 := a1.row (h := w1.heap.size) (xs := cs) (by omega)
 rw [← e]
 exact ⟨a2.c 0, a2.c 1, a2.f 0, a2.f 1⟩
theorem detV_one {w : World} {d : Det} {p : PV} (h : DetV w d p) : (detC d p).all (·.oneCell') = true := by
 have k : ∀ {α : Type} {sz : Nat} {enc : α → List Value} {v : Value} {l : List α}, Sl w sz enc v l → v.oneCell' = true := fun ⟨a, c, e, _⟩ => by rw [e]; rfl
 unfold detC
 rw [List.all_toArray]
 simp only [List.all_append, List.all_cons, List.all_nil, Value.one_encK, k h.boxes, k h.holes, k h.bars, k h.runs, k h.laps, k h.dems, Bool.and_true, Bool.true_and]
 rfl
def aw1 : List UInt8 := [109, 101, 109, 98, 101, 114, 32, 109, 32, 51, 48, 32, 50, 48, 32, 52, 48, 10, 114, 117, 108, 101, 32, 52, 48, 32, 49, 32, 49, 48, 32, 55, 32, 55, 32, 49, 48, 32, 51, 32, 50, 32, 49, 48, 48, 10]
def aw2 : List UInt8 := [109, 101, 109, 98, 101, 114, 32, 109, 32, 51, 48, 32, 50, 48, 32, 52, 48, 10, 115, 116, 101, 112, 32, 48, 32, 53, 10]
def awD : Det := { det0 with name := [109], mem := [30, 20, 40], rule := [40, 1, 10, 7, 7, 10, 3, 2, 100] }
set_option maxRecDepth 100000 in
theorem aw_one : srcS aw1 = (awD, (0, 0), 0) := by decide +kernel
set_option maxRecDepth 100000 in
theorem aw_two : (srcS aw2).2 = ((2, 1), 7) := by decide +kernel
set_option maxRecDepth 100000 in
theorem aw_text : textR awD = (aw1, 0) := by decide +kernel
set_option maxRecDepth 100000 in
set_option maxHeartbeats 2000000 in
theorem awake_any (w : World) (he : Env w) : Calls Tryz.prog 9 #[] w fun e w' => e = .returned (.bool true) ∧ Below w.heap.size w w' := by
 have HP1 := Lib.hid (parse_any ⟨#[109, 101, 109, 98, 101, 114, 32, 109, 32, 51, 48, 32, 50, 48, 32, 52, 48, 10, 114, 117, 108, 101, 32, 52, 48, 32, 49, 32, 49, 48, 32, 55, 32, 55, 32, 49, 48, 32, 51, 32, 50, 32, 49, 48, 48, 10]⟩ w he)
 go_enter Tryz.func9, Tryz.ntmps9
 go_wp2_with fail
 refine HP1.out.mono ?_
 rintro e w1 ⟨p, he1, hDV, HB1⟩
 have hsr : srcS (by_ ⟨#[109, 101, 109, 98, 101, 114, 32, 109, 32, 51, 48, 32, 50, 48, 32, 52, 48, 10, 114, 117, 108, 101, 32, 52, 48, 32, 49, 32, 49, 48, 32, 55, 32, 55, 32, 49, 48, 32, 51, 32, 50, 32, 49, 48, 48, 10]⟩) = (awD, (0, 0), 0) := aw_one
 rw [hsr] at he1 hDV
 dsimp only at he1 hDV
 subst he1
 have hsh : awD.sh := by have := srcS_sh (by_ ⟨#[109, 101, 109, 98, 101, 114, 32, 109, 32, 51, 48, 32, 50, 48, 32, 52, 48, 10, 114, 117, 108, 101, 32, 52, 48, 32, 49, 32, 49, 48, 32, 55, 32, 55, 32, 49, 48, 32, 51, 32, 50, 32, 49, 48, 48, 10]⟩); rw [hsr] at this; exact this
 clear HP1 hsr
 have hz1 := row_new (w1 := w1) awD p
 have hrp1 := row_pos (w1 := w1) (detC awD p)
 have h11 : Hid ((detC awD p).all (·.oneCell') = true) := Lib.hid (detV_one hDV)
 go_upto_region 2 with (first | (refine wpList_store_row rfl 34 (.tmp 1) (.tmp 11) rfl w1.heap.size (detC awD p) (by simp [Act.eval]) (by simp [Act.eval]) 34 zeroD hz1.out (by rw [detC_size]; kernel_rfl) (by rw [detC_size]; rfl) h11.out ?_; generalize hW9 : World.setRow _ _ _ = V1; obtain ⟨y0, y1, yf0, yf1⟩ := hrp1.out V1 hW9) | fail)
 generalize hW2 : World.setCell (World.setCell V1 _ _) _ _ = W2
 obtain ⟨kX, kQ, hDV2, HB2⟩ := two_new hDV V1 W2 hW9 hW2
 have HBw := Lib.hid (below_then HB1 HB2)
 have hX : W2.cell? ⟨w1.heap.size, 3, none⟩ = some (.int .i64 30) := kX.c 3
 have hX2 : W2.cell? ⟨w1.heap.size, 18, none⟩ = some (.int .i64 100) := kX.c 18
 have hXl := kX.lt
 have heW := he.bel HBw.out
 have HT := Lib.hid (text_any awD p hsh W2 hDV2 heW)
 rw [aw_text] at HT
 dsimp only at HT
 rw [show (⟨aw1.toArray⟩ : ByteArray) = ⟨#[109, 101, 109, 98, 101, 114, 32, 109, 32, 51, 48, 32, 50, 48, 32, 52, 48, 10, 114, 117, 108, 101, 32, 52, 48, 32, 49, 32, 49, 48, 32, 55, 32, 55, 32, 49, 48, 32, 51, 32, 50, 32, 49, 48, 48, 10]⟩ from rfl] at HT
 replace hDV := Lib.hid hDV
 replace hDV2 := Lib.hid hDV2
 replace HB2 := Lib.hid HB2
 replace HB1 := Lib.hid HB1
 replace he := Lib.hid he
 replace heW := Lib.hid heW
 clear hW2 hW9 y0 y1 yf0 yf1 kQ hrp1 hz1 h11
 go_wp2_with (first | (refine wpList_load_row rfl 34 (.tmp 1) rfl w1.heap.size (by simp [Act.eval]) 34 (detC awD p) (0, 0) _ kX Tryz.underlying34 rfl (by rw [detC_size]; kernel_rfl) ?_) | fail)
 refine HT.out.mono ?_
 rintro e w3 ⟨rfl, HB3⟩
 have hX' : w3.cell? ⟨w1.heap.size, 3, none⟩ = some (.int .i64 30) := cell_up HB3 hX
 have hX2' : w3.cell? ⟨w1.heap.size, 18, none⟩ = some (.int .i64 100) := cell_up HB3 hX2
 have HP2 := Lib.hid (parse_any ⟨#[109, 101, 109, 98, 101, 114, 32, 109, 32, 51, 48, 32, 50, 48, 32, 52, 48, 10, 115, 116, 101, 112, 32, 48, 32, 53, 10]⟩ w3 (heW.out.bel HB3))
 replace HB3 := Lib.hid (below_then HBw.out HB3)
 clear HT hX hX2 kX
 go_wp2_with fail
 refine HP2.out.mono ?_
 rintro e w4 ⟨p2, he1, hDV4, HB4⟩
 have hsr : (srcS (by_ ⟨#[109, 101, 109, 98, 101, 114, 32, 109, 32, 51, 48, 32, 50, 48, 32, 52, 48, 10, 115, 116, 101, 112, 32, 48, 32, 53, 10]⟩)).2 = ((2, 1), 7) := aw_two
 generalize srcS (by_ ⟨#[109, 101, 109, 98, 101, 114, 32, 109, 32, 51, 48, 32, 50, 48, 32, 52, 48, 10, 115, 116, 101, 112, 32, 48, 32, 53, 10]⟩) = SR at *
 obtain ⟨d2, P2⟩ := SR
 dsimp only at hsr
 subst hsr
 dsimp only at he1 hDV4
 subst he1
 clear HP2
 have hZ : w4.cell? ⟨w1.heap.size, 3, none⟩ = some (.int .i64 30) := cell_up HB4 hX'
 have hZ2 : w4.cell? ⟨w1.heap.size, 18, none⟩ = some (.int .i64 100) := cell_up HB4 hX2'
 have hz2 := row_new (w1 := w4) d2 p2
 have hrp2 := row_pos (w1 := w4) (detC d2 p2)
 have h12 : Hid ((detC d2 p2).all (·.oneCell') = true) := Lib.hid (detV_one hDV4)
 replace HB4 := Lib.hid (below_then HB3.out HB4)
 clear hX' hX2'
 go_upto_region 4 with (first | (refine wpList_store_row rfl 34 (.tmp 6) (.tmp 21) rfl w4.heap.size (detC d2 p2) (by simp [Act.eval]) (by simp [Act.eval]) 34 zeroD hz2.out (by rw [detC_size]; kernel_rfl) (by rw [detC_size]; rfl) h12.out ?_; generalize hW9 : World.setRow _ _ _ = V2; obtain ⟨y0, y1, yf0, yf1⟩ := hrp2.out V2 hW9) | fail)
 generalize hW2 : World.setCell (World.setCell V2 _ _) _ _ = W5
 obtain ⟨kX5, kQ5, -, HB5⟩ := two_new hDV4 V2 W5 hW9 hW2
 have u3 : W5.cell? ⟨w1.heap.size, 3, none⟩ = some (.int .i64 30) := cell_up HB5 hZ
 have u18 : W5.cell? ⟨w1.heap.size, 18, none⟩ = some (.int .i64 100) := cell_up HB5 hZ2
 have u0 : W5.cell? ⟨w4.heap.size + 1, 0, none⟩ = some (.int .i64 2) := kQ5.c 0
 have u1 : W5.cell? ⟨w4.heap.size + 1, 1, none⟩ = some (.int .i64 1) := kQ5.c 1
 have HBf := Lib.hid (below_then HB4.out HB5)
 clear hW2 hW9 y0 y1 yf0 yf1 kX5 kQ5 HB5 hZ hZ2 hrp2 hz2 h12 hDV4
 go_wp2_with fail
 go_ret
 exact ⟨rfl, HBf.out⟩
end Go.Proofs.YtccakklnbhcbdaaGreatDoor
