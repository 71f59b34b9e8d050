import Derived.Test.YtccakklnbhcbdaaGreatDoorFSyG
import Derived.Test.YtccakklnbhcbdaaGreatDoorFMFm
import Derived.Test.YtccakklnbhcbdaaGreatDoorFQk
import Derived.Test.YtccakklnbhcbdaaGreatDoorFSzM
set_option linter.unusedVariables false
set_option linter.unusedSimpArgs false
namespace Go.Proofs.YtccakklnbhcbdaaGreatDoor
open Go.ChangeShapes Go.WideShapes Go.ChangeAt Go.RowKit
theorem wpList_load_row_x {P : Program} {ops : Array Oper} {rest : List Oper} {o : Oper} {a : Act} {w : World} {Q : Exit → Act → World → Prop} (hw : Region.wanted o (yielded ops a.tmps) = true) (ty : TypeId) (x : Operand) (ho : o.op = .load ty x)
  (g : Nat) (hx : a.eval x = .pointer (some ⟨g, 0, none⟩)) (t : TypeId) (cs : Array Value) (fr : Nat × Nat) (d : TypeDesc) (hg : w.heap[g]? = some (.cells cs t fr))
  (hu : P.underlying ty = some d) (hd : (match d with | .struct _ | .array _ _ => true | _ => false) = true) (hi : (P.info? ty).map (·.size) = some cs.size)
  (h : wpList P ops Q rest (a.put o.dst (.agg cs)) w) : wpList P ops Q (o :: rest) a w :=
 wpList_step fun K hK => by rw [if_pos hw]; exact wp_load_row ty x ho g hx t cs fr d hg hu hd hi (hK _ _ h)
theorem srcS_len {l : List UInt8} (h : (srcS l).2.2 = 0) : l.length ≤ 262144 := by
 obtain ⟨-, h0, -⟩ := srcS_good h
 by_cases hl : 262144 < l.length
 ·exfalso
  have ht : tokS l = ([], (0, 0), 4) := by unfold tokS; rw [if_pos hl]
  unfold readS at h0
  rw [ht] at h0
  simp at h0
 ·omega
set_option maxRecDepth 100000 in
theorem long_fmt (S : ByteArray) (w : World) : Calls Tryz.prog 15 #[.string S] w fun e w' => (∃ b, e = .returned (.bool b) ∧ (3000 < S.size ∧ S.size ≤ 262144 → b = true)) ∧ w = w' := by
 by_cases h1 : 3000 < S.size
 ·have d1 : decide ((3000 : Int) < (S.size : Int)) = true := decide_eq_true (by omega)
  by_cases h2 : S.size ≤ 262144
  ·have d2 : decide ((S.size : Int) ≤ (262144 : Int)) = true := decide_eq_true (by omega)
   go_enter Tryz.func15, Tryz.ntmps15
   go_wp2_with fail
   go_ret
   exact ⟨⟨_, rfl, fun _ => rfl⟩, rfl⟩
  ·have d2 : decide ((S.size : Int) ≤ (262144 : Int)) = false := decide_eq_false (by omega)
   obtain ⟨b, d3⟩ : ∃ b, decide ((262244 : Int) < (S.size : Int)) = b := ⟨_, rfl⟩
   go_enter Tryz.func15, Tryz.ntmps15
   go_wp2_with fail
   go_ret
   exact ⟨⟨_, rfl, fun h => absurd h.2 h2⟩, rfl⟩
 ·have d1 : decide ((3000 : Int) < (S.size : Int)) = false := decide_eq_false (by omega)
  obtain ⟨b, d3⟩ : ∃ b, decide ((262244 : Int) < (S.size : Int)) = b := ⟨_, rfl⟩
  go_enter Tryz.func15, Tryz.ntmps15
  go_wp2_with fail
  go_ret
  exact ⟨⟨_, rfl, fun h => absurd h.1 h1⟩, rfl⟩
set_option maxRecDepth 100000 in
set_option maxHeartbeats 4000000 in
theorem sourceFormats_walk (S : ByteArray) (w : World) (he : Env w) : Calls Tryz.prog 4 #[.string S] w fun e w' => e = .returned (.bool true) ∧ Below w.heap.size w w' := by
 have HP2 : Hid (∀ W, Calls Tryz.prog 17 #[.string S] W (ParE (by_ S) W)) := Lib.hid fun W => rparse_any S W
 have he0 := Lib.hid he
 go_enter Tryz.func4, Tryz.ntmps4
 go_wp2_with fail
 refine (awake_any w he).mono ?_
 rintro e w1 ⟨rfl, hb1⟩
 have hB1 := Lib.hid hb1
 clear hb1 he
 go_wp2_with fail
 refine (long_fmt S w1).mono ?_
 rintro e w' ⟨⟨lb, rfl, hlb⟩, rfl⟩
 cases lb with
 | true =>
  go_wp2_with fail
  go_ret
  exact ⟨rfl, hB1.out⟩
 | false =>
  have hSz : ¬ (3000 < S.size ∧ S.size ≤ 262144) := fun h => by have := hlb h; cases this
  have he1 := Lib.hid (he0.out.bel hB1.out)
  clear hlb he0
  have hS : Hid ((srcS (by_ S)).1.sh) := Lib.hid (srcS_sh _)
  by_cases hE : (srcS (by_ S)).2.2 = 0
  ·have hl : (by_ S).length ≤ 3000 := by
    have h1 := srcS_len hE
    rw [by_len] at h1 ⊢
    omega
   obtain ⟨hF2, -, hwr⟩ := fmt_again hl hE
   have hsg := (srcS_good hE).1
   have HF1 : Hid (Calls Tryz.prog 16 #[.string S] w1 fun e w' => e = .returned (.tuple #[.string ⟨(textD (srcS (by_ S)).1).toArray⟩, .agg #[.int .i64 0, .int .i64 0], .int .i64 0]) ∧ Below w1.heap.size w1 w') := Lib.hid (by
    have := format_any S w1 he1.out
    rw [fmt_short hl, if_neg (by rw [hE]; simp)] at this
    exact this)
   have HF2 : Hid (∀ W, Env W → Calls Tryz.prog 16 #[.string ⟨(textD (srcS (by_ S)).1).toArray⟩] W fun e w' => e = .returned (.tuple #[.string ⟨(textD (srcS (by_ S)).1).toArray⟩, .agg #[.int .i64 0, .int .i64 0], .int .i64 0]) ∧ Below W.heap.size W w') := Lib.hid fun W h => by
    have := format_any ⟨(textD (srcS (by_ S)).1).toArray⟩ W h
    rw [show by_ ⟨(textD (srcS (by_ S)).1).toArray⟩ = textD (srcS (by_ S)).1 by simp [by_], hF2] at this
    exact this
   have HT : Hid (∀ p W, DetV W (srcS (by_ S)).1 p → Calls Tryz.prog 14 #[.agg (detC (srcS (by_ S)).1 p)] W fun e w' => e = .returned (.string ⟨(textD (srcS (by_ S)).1).toArray⟩) ∧ Below W.heap.size W w') := Lib.hid fun p W h => rtext_any _ p hS.out W h hwr
   have hsd : (srcS (by_ S)) = ((srcS (by_ S)).1, (0, 0), 0) := by rw [hsg]
   unfold ParE at HP2
   clear hF2 hwr hsg hl hE hSz hS
   generalize srcS (by_ S) = SR at *
   obtain ⟨d, PQ, E⟩ := SR
   injection hsd with _ hsd
   injection hsd with hsd1 hsd2
   subst hsd1
   subst hsd2
   dsimp only at *
   generalize (⟨(textD d).toArray⟩ : ByteArray) = TX at *
   go_wp2_with fail
   refine HF1.out.mono ?_
   rintro e w4 ⟨rfl, hb4⟩
   have hB4 := Lib.hid (below_then hB1.out hb4)
   have he4 := Lib.hid (he1.out.bel hb4)
   clear hb4 hB1 he1 HF1
   obtain ⟨X, hX⟩ : ∃ X, w4.heap.size = X := ⟨_, rfl⟩
   go_upto_region 6 with fail
   generalize hW3 : World.alloc w4 _ = W5
   have kX : At W5 X 43 #[.int .i64 0, .int .i64 0] := by rw [← hW3]; exact At.new' hX.symm
   have hb5 : Below w4.heap.size w4 W5 := by rw [← hW3]; exact below_al (Below.refl _ _) _
   have hB5 := Lib.hid (below_then hB4.out hb5)
   have he5 := Lib.hid (he4.out.bel hb5)
   have hXw : w.heap.size ≤ X := by have := hB4.out.size; omega
   clear hW3 hb5 hB4 he4
   try rw [hX]
   clear hX
   go_wp2_with fail
   refine (HP2.out W5).mono ?_
   rintro e w6 ⟨p2, rfl, hV6, hb6⟩
   have hB6 := Lib.hid (below_then hB5.out hb6)
   have he6 := Lib.hid (he5.out.bel hb6)
   have kXa := kX.bel hb6
   replace hV6 := Lib.hid hV6
   clear hb6 hB5 HP2 kX he5
   obtain ⟨X2, hX2⟩ : ∃ X, w6.heap.size = X := ⟨_, rfl⟩
   have h1c := detV_one hV6.out
   have hszX2 := detC_size d p2
   have hRow : Hid (∀ W9, ((w6.alloc (.cells zeroD 34)).alloc (.cells #[.int .i64 0, .int .i64 0] 43)).setRow X2 (detC d p2) = W9 → At W9 X2 34 (detC d p2) ∧ At W9 (X2 + 1) 43 #[.int .i64 0, .int .i64 0] ∧ Hid (Below X2 w6 W9)) := Lib.hid fun W9 e => by
    have a0 : At ((w6.alloc (.cells zeroD 34)).alloc (.cells #[.int .i64 0, .int .i64 0] 43)) X2 34 zeroD := (At.new' hX2.symm).al _
    have a1 : At ((w6.alloc (.cells zeroD 34)).alloc (.cells #[.int .i64 0, .int .i64 0] 43)) (X2 + 1) 43 #[.int .i64 0, .int .i64 0] := At.new' (by simp [hX2])
    rw [← e]
    refine ⟨a0.rowAt, a1.row (by omega), Lib.hid (below_row ?_ (Nat.le_refl X2) _)⟩
    rw [← hX2]
    exact below_al (below_al (Below.refl _ _) _) _
   have hz0' : Hid (At ((w6.alloc (.cells zeroD 34)).alloc (.cells #[.int .i64 0, .int .i64 0] 43)) X2 34 zeroD) := Lib.hid ((At.new' hX2.symm).al _)
   go_upto_region 7 with (first | (refine wpList_store_row rfl 34 (.tmp 6) (.tmp 23) rfl X2 (detC d p2) (by simp [Act.eval, hX2]) (by simp [Act.eval]) 34 zeroD hz0'.out (by rw [hszX2]; kernel_rfl) (by rw [hszX2]; rfl) h1c ?_; generalize hW9 : World.setRow _ _ _ = W9; obtain ⟨kx0, kQ, hb9⟩ := hRow.out W9 hW9; have y0 : W9.cell? ⟨X2 + 1, 0, none⟩ = some (.int .i64 0) := kQ.c 0; have y1 : W9.cell? ⟨X2 + 1, 1, none⟩ = some (.int .i64 0) := kQ.c 1; have yf0 : W9.frozen? ⟨X2 + 1, 0, none⟩ = false := kQ.f 0; have yf1 : W9.frozen? ⟨X2 + 1, 1, none⟩ = false := kQ.f 1) | fail)
   generalize hW3 : World.setCell (World.setCell W9 _ _) _ _ = W7
   have kX2 : At W7 X2 34 (detC d p2) := by rw [← hW3]; exact (kx0.ne ⟨X2 + 1, 0, none⟩ _ (by simp)).ne ⟨X2 + 1, 1, none⟩ _ (by simp)
   have hbW7 : Below w6.heap.size w6 W7 := by rw [hX2, ← hW3]; exact below_sc (below_sc hb9.out (by omega) 0 _) (by omega) 1 _
   have hVW7 := Lib.hid (hV6.out.up hbW7)
   have hBW7 := Lib.hid (below_then hB6.out hbW7)
   have kPos : At W7 (X2 + 1) 43 #[.int .i64 0, .int .i64 0] := by
    rw [← hW3]
    have := (kQ.put 0 (.int .i64 0)).put 1 (.int .i64 0)
    simpa using this
   clear hW3 hW9 kx0 kQ hb9 y0 y1 yf0 yf1 hRow hz0' hX2 h1c
   have kXb := kXa.bel hbW7
   have he7 := Lib.hid (he6.out.bel hbW7)
   have HQ := Lib.hid (HT.out p2 W7 hVW7.out)
   clear hB6 hV6 kXa hbW7 hVW7 he6 HT
   go_wp2_with (first | (refine wpList_load_row_x (by rfl) 34 (.tmp 6) rfl X2 (by simp [Act.eval, Act.put]) 34 (detC d p2) (0, 0) _ kX2 Tryz.underlying34 rfl (by rw [hszX2]; kernel_rfl) ?_) | fail)
   refine HQ.out.mono ?_
   rintro e w8 ⟨rfl, hb8⟩
   have kXc := kXb.bel hb8
   have he8 := Lib.hid (he7.out.bel hb8)
   have hB8 := Lib.hid (below_then hBW7.out hb8)
   have a0 : w8.cell? ⟨X, 0, none⟩ = some (.int .i64 0) := kXc.c 0
   have a1 : w8.cell? ⟨X, 1, none⟩ = some (.int .i64 0) := kXc.c 1
   clear hb8 hBW7 HQ kXb kX2 kPos he7
   go_wp2_with fail
   refine (HF2.out w8 he8.out).mono ?_
   rintro e w9 ⟨rfl, hb9⟩
   have kXd := kXc.bel hb9
   have hB9 := Lib.hid (below_then hB8.out hb9)
   have b0 : w9.cell? ⟨X, 0, none⟩ = some (.int .i64 0) := kXd.c 0
   have b1 : w9.cell? ⟨X, 1, none⟩ = some (.int .i64 0) := kXd.c 1
   have f0 : w9.frozen? ⟨X, 0, none⟩ = false := kXd.f 0
   have f1 : w9.frozen? ⟨X, 1, none⟩ = false := kXd.f 1
   clear hb9 hB8 HF2 kXc kXd he8 a0 a1
   go_wp2_with fail
   go_ret
   exact ⟨rfl, by repeat (first | exact hB9.out | with_reducible refine below_drew ?_ | refine below_sc ?_ hXw _ _)⟩
  ·have HF1 : Hid (Calls Tryz.prog 16 #[.string S] w1 fun e w' => e = .returned (.tuple #[.string ⟨#[]⟩, .agg #[.int .i64 (srcS (by_ S)).2.1.1, .int .i64 (srcS (by_ S)).2.1.2], .int .i64 (srcS (by_ S)).2.2]) ∧ Below w1.heap.size w1 w') := Lib.hid (by
    have := format_any S w1 he1.out
    rw [show fmtS (by_ S) = ([], (srcS (by_ S)).2.1, (srcS (by_ S)).2.2) by unfold fmtS; rw [if_pos hE]] at this
    exact this)
   unfold ParE at HP2
   clear hSz
   generalize srcS (by_ S) = SR at *
   obtain ⟨d, ⟨L, C⟩, E⟩ := SR
   dsimp only at *
   have hne : (E != 0) = true := by simp [hE]
   clear hE
   go_wp2_with fail
   refine HF1.out.mono ?_
   rintro e w4 ⟨rfl, hb4⟩
   have hB4 := Lib.hid (below_then hB1.out hb4)
   have he4 := Lib.hid (he1.out.bel hb4)
   clear hb4 hB1 he1 HF1
   obtain ⟨X, hX⟩ : ∃ X, w4.heap.size = X := ⟨_, rfl⟩
   go_upto_region 6 with fail
   generalize hW3 : World.alloc w4 _ = W5
   have kX : At W5 X 43 #[.int .i64 L, .int .i64 C] := by rw [← hW3]; exact At.new' hX.symm
   have hb5 : Below w4.heap.size w4 W5 := by rw [← hW3]; exact below_al (Below.refl _ _) _
   have hB5 := Lib.hid (below_then hB4.out hb5)
   have he5 := Lib.hid (he4.out.bel hb5)
   have hXw : w.heap.size ≤ X := by have := hB4.out.size; omega
   clear hW3 hb5 hB4 he4
   try rw [hX]
   clear hX
   go_wp2_with fail
   refine (HP2.out W5).mono ?_
   rintro e w6 ⟨p2, rfl, hV6, hb6⟩
   have hB6 := Lib.hid (below_then hB5.out hb6)
   have kXa := kX.bel hb6
   replace hV6 := Lib.hid hV6
   clear hb6 hB5 HP2 kX he5
   obtain ⟨X2, hX2⟩ : ∃ X, w6.heap.size = X := ⟨_, rfl⟩
   have h1c := detV_one hV6.out
   have hszX2 := detC_size d p2
   have hRow : Hid (∀ W9, ((w6.alloc (.cells zeroD 34)).alloc (.cells #[.int .i64 0, .int .i64 0] 43)).setRow X2 (detC d p2) = W9 → At W9 X2 34 (detC d p2) ∧ At W9 (X2 + 1) 43 #[.int .i64 0, .int .i64 0] ∧ Hid (Below X2 w6 W9)) := Lib.hid fun W9 e => by
    have a0 : At ((w6.alloc (.cells zeroD 34)).alloc (.cells #[.int .i64 0, .int .i64 0] 43)) X2 34 zeroD := (At.new' hX2.symm).al _
    have a1 : At ((w6.alloc (.cells zeroD 34)).alloc (.cells #[.int .i64 0, .int .i64 0] 43)) (X2 + 1) 43 #[.int .i64 0, .int .i64 0] := At.new' (by simp [hX2])
    rw [← e]
    refine ⟨a0.rowAt, a1.row (by omega), Lib.hid (below_row ?_ (Nat.le_refl X2) _)⟩
    rw [← hX2]
    exact below_al (below_al (Below.refl _ _) _) _
   have hz0' : Hid (At ((w6.alloc (.cells zeroD 34)).alloc (.cells #[.int .i64 0, .int .i64 0] 43)) X2 34 zeroD) := Lib.hid ((At.new' hX2.symm).al _)
   go_upto_region 7 with (first | (refine wpList_store_row rfl 34 (.tmp 6) (.tmp 23) rfl X2 (detC d p2) (by simp [Act.eval, hX2]) (by simp [Act.eval]) 34 zeroD hz0'.out (by rw [hszX2]; kernel_rfl) (by rw [hszX2]; rfl) h1c ?_; generalize hW9 : World.setRow _ _ _ = W9; obtain ⟨kx0, kQ, hb9⟩ := hRow.out W9 hW9; have y0 : W9.cell? ⟨X2 + 1, 0, none⟩ = some (.int .i64 0) := kQ.c 0; have y1 : W9.cell? ⟨X2 + 1, 1, none⟩ = some (.int .i64 0) := kQ.c 1; have yf0 : W9.frozen? ⟨X2 + 1, 0, none⟩ = false := kQ.f 0; have yf1 : W9.frozen? ⟨X2 + 1, 1, none⟩ = false := kQ.f 1) | fail)
   generalize hW3 : World.setCell (World.setCell W9 _ _) _ _ = W7
   have kX2 : At W7 X2 34 (detC d p2) := by rw [← hW3]; exact (kx0.ne ⟨X2 + 1, 0, none⟩ _ (by simp)).ne ⟨X2 + 1, 1, none⟩ _ (by simp)
   have hbW7 : Below w6.heap.size w6 W7 := by rw [hX2, ← hW3]; exact below_sc (below_sc hb9.out (by omega) 0 _) (by omega) 1 _
   have hVW7 := Lib.hid (hV6.out.up hbW7)
   have hBW7 := Lib.hid (below_then hB6.out hbW7)
   have kPos : At W7 (X2 + 1) 43 #[.int .i64 L, .int .i64 C] := by
    rw [← hW3]
    have := (kQ.put 0 (.int .i64 L)).put 1 (.int .i64 C)
    simpa using this
   clear hW3 hW9 kx0 kQ hb9 y0 y1 yf0 yf1 hRow hz0' hX2 h1c
   have a0 : W7.cell? ⟨X, 0, none⟩ = some (.int .i64 L) := (kXa.bel hbW7).c 0
   have a1 : W7.cell? ⟨X, 1, none⟩ = some (.int .i64 C) := (kXa.bel hbW7).c 1
   have c0 : W7.cell? ⟨X2 + 1, 0, none⟩ = some (.int .i64 L) := kPos.c 0
   have c1 : W7.cell? ⟨X2 + 1, 1, none⟩ = some (.int .i64 C) := kPos.c 1
   clear hB6 hV6 kXa hbW7 hVW7 kX2 kPos
   go_wp2_with fail
   go_ret
   exact ⟨rfl, by repeat (first | exact hBW7.out | with_reducible refine below_drew ?_)⟩
end Go.Proofs.YtccakklnbhcbdaaGreatDoor
