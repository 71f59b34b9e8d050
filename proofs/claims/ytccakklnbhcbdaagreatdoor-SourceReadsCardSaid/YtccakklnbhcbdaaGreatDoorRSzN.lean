import Derived.Test.YtccakklnbhcbdaaGreatDoorRZ
import Derived.Test.YtccakklnbhcbdaaGreatDoorRSzH
import Derived.Test.YtccakklnbhcbdaaGreatDoorRQk
import Derived.Test.YtccakklnbhcbdaaGreatDoorRSzM
set_option linter.unusedVariables false
set_option linter.unusedSimpArgs false
namespace Go.Proofs.YtccakklnbhcbdaaGreatDoor
open Go.ChangeShapes Go.WideShapes Go.ChangeAt Go.RowKit
theorem eqS_same3 (l : List ByteArray) (v1 v2 : Value) (w : World) (h : l.length ≤ 10000000) (r1 : IsS l v1 w) (r2 : IsS l v2 w) : Calls Tryz.prog 22 #[v1, v2] w fun e w' => e = .returned (.bool true) ∧ Below w.heap.size w w' := by
 have := eqS_any l l v1 v2 w h h r1 r2
 rwa [decide_eq_true rfl] at this
set_option maxRecDepth 100000 in
theorem long_any (S : ByteArray) (w : World) : Calls Tryz.prog 15 #[.string S] w fun e w' => (∃ b, e = .returned (.bool b)) ∧ w = w' := by
 by_cases h1 : 3000 < S.size
 ·have d1 : decide ((3000 : Int) < (S.size : Int)) = true := decide_eq_true (by omega)
  by_cases h2 : S.size ≤ 262144
  ·have d2 : decide ((S.size : Int) ≤ (262144 : Int)) = true := decide_eq_true (by omega)
   go_enter Tryz.func15, Tryz.ntmps15
   go_wp2_with fail
   go_ret
   exact ⟨⟨_, rfl⟩, rfl⟩
  ·have d2 : decide ((S.size : Int) ≤ (262144 : Int)) = false := decide_eq_false (by omega)
   obtain ⟨b, d3⟩ : ∃ b, decide ((262244 : Int) < (S.size : Int)) = b := ⟨_, rfl⟩
   go_enter Tryz.func15, Tryz.ntmps15
   go_wp2_with fail
   go_ret
   exact ⟨⟨_, rfl⟩, rfl⟩
 ·have d1 : decide ((3000 : Int) < (S.size : Int)) = false := decide_eq_false (by omega)
  obtain ⟨b, d3⟩ : ∃ b, decide ((262244 : Int) < (S.size : Int)) = b := ⟨_, rfl⟩
  go_enter Tryz.func15, Tryz.ntmps15
  go_wp2_with fail
  go_ret
  exact ⟨⟨_, rfl⟩, rfl⟩
set_option maxRecDepth 100000 in
set_option maxHeartbeats 4000000 in
theorem sourceReads_walk (S : ByteArray) (w : World) (he : Env w) : Calls Tryz.prog 5 #[.string S] w fun e w' => e = .returned (.bool true) ∧ Below w.heap.size w w' := by
 obtain ⟨i0, hi, hz0, hz1, hz2⟩ := info_parts infoStr
 have HP1 : Hid (∀ W, Env W → Calls Tryz.prog 18 #[.string S] W (ParE (by_ S) W)) := Lib.hid fun W h => parse_any S W h
 have HP2 : Hid (∀ W, Calls Tryz.prog 17 #[.string S] W (ParE (by_ S) W)) := Lib.hid fun W => rparse_any S W
 have HN1 : Hid (∀ W, Env W → Calls Tryz.prog 20 #[.string S] W (NamesE (readS (by_ S)) W)) := Lib.hid fun W h => names_any S W h
 have HR1 : Hid (∀ W, Calls Tryz.prog 21 #[.string S] W fun e w' => ∃ p, e = .returned (.tuple #[.agg (detC (readS (by_ S)).1 p), .agg #[.int .i64 (readS (by_ S)).2.1.1, .int .i64 (readS (by_ S)).2.1.2], .int .i64 (readS (by_ S)).2.2]) ∧ Hid (DetV w' (readS (by_ S)).1 p) ∧ Below W.heap.size W w') := Lib.hid fun W => (rread_any S W).mono fun e w' ⟨p, q1, q2, _, q4⟩ => ⟨p, q1, Lib.hid q2.view, q4⟩
 have hS : Hid ((srcS (by_ S)).1.sh) := Lib.hid (srcS_sh _)
 have hfew : Hid (manyD (readS (by_ S)).1 ≤ 1000000) := Lib.hid (readS_few _)
 have he0 := Lib.hid he
 unfold ParE at HP1 HP2
 unfold NamesE at HN1
 generalize srcS (by_ S) = SR at *
 generalize readS (by_ S) = RS at *
 obtain ⟨d, ⟨L, C⟩, E⟩ := SR
 obtain ⟨d2, ⟨L2, C2⟩, F⟩ := RS
 dsimp only at *
 go_enter Tryz.func5, Tryz.ntmps5
 go_wp2_with fail
 refine (awake_any w he).mono ?_
 rintro e w1 ⟨rfl, hb1⟩
 have hB1 := Lib.hid hb1
 clear hb1 he
 go_wp2_with fail
 refine (long_any S w1).mono ?_
 rintro e w' ⟨⟨lb, rfl⟩, rfl⟩
 cases lb with
 | true =>
  go_wp2_with fail
  go_ret
  exact ⟨rfl, hB1.out⟩
 | false =>
  go_wp2_with fail
  refine (HP1.out w1 (he0.out.bel hB1.out)).mono ?_
  rintro e w4 ⟨p1, rfl, hV4, hb4⟩
  have hB4 := Lib.hid (below_then hB1.out hb4)
  replace hV4 := Lib.hid hV4
  clear hb4 hB1 HP1
  obtain ⟨X, hX⟩ : ∃ X, w4.heap.size = X := ⟨_, rfl⟩
  have h1c := detV_one hV4.out
  have hszX := detC_size d p1
  have hRow : Hid (∀ W9, ((w4.alloc (.cells zeroD 34)).alloc (.cells #[.int .i64 0, .int .i64 0] 43)).setRow X (detC d p1) = W9 → At W9 X 34 (detC d p1) ∧ At W9 (X + 1) 43 #[.int .i64 0, .int .i64 0] ∧ Hid (Below X w4 W9)) := Lib.hid fun W9 e => by
   have a0 : At ((w4.alloc (.cells zeroD 34)).alloc (.cells #[.int .i64 0, .int .i64 0] 43)) X 34 zeroD := (At.new' hX.symm).al _
   have a1 : At ((w4.alloc (.cells zeroD 34)).alloc (.cells #[.int .i64 0, .int .i64 0] 43)) (X + 1) 43 #[.int .i64 0, .int .i64 0] := At.new' (by simp [hX])
   rw [← e]
   refine ⟨a0.rowAt, a1.row (by omega), Lib.hid (below_row ?_ (Nat.le_refl X) _)⟩
   rw [← hX]
   exact below_al (below_al (Below.refl _ _) _) _
  have hz0' : Hid (At ((w4.alloc (.cells zeroD 34)).alloc (.cells #[.int .i64 0, .int .i64 0] 43)) X 34 zeroD) := Lib.hid ((At.new' hX.symm).al _)
  go_upto_region 6 with (first | (refine wpList_store_row rfl 34 (.tmp 3) (.tmp 29) rfl X (detC d p1) (by simp [Act.eval, hX]) (by simp [Act.eval]) 34 zeroD hz0'.out (by rw [hszX]; kernel_rfl) (by rw [hszX]; rfl) h1c ?_; generalize hW9 : World.setRow _ _ _ = W9; obtain ⟨kx0, kQ, hb9⟩ := hRow.out W9 hW9; have y0 : W9.cell? ⟨X + 1, 0, none⟩ = some (.int .i64 0) := kQ.c 0; have y1 : W9.cell? ⟨X + 1, 1, none⟩ = some (.int .i64 0) := kQ.c 1; have yf0 : W9.frozen? ⟨X + 1, 0, none⟩ = false := kQ.f 0; have yf1 : W9.frozen? ⟨X + 1, 1, none⟩ = false := kQ.f 1) | fail)
  generalize hW3 : World.setCell (World.setCell W9 _ _) _ _ = W5
  have kX : At W5 X 34 (detC d p1) := by rw [← hW3]; exact (kx0.ne ⟨X + 1, 0, none⟩ _ (by simp)).ne ⟨X + 1, 1, none⟩ _ (by simp)
  have hbW5 : Below w4.heap.size w4 W5 := by rw [hX, ← hW3]; exact below_sc (below_sc hb9.out (by omega) 0 _) (by omega) 1 _
  have hVW5 := Lib.hid (hV4.out.up hbW5)
  have hBW5 := Lib.hid (below_then hB4.out hbW5)
  have kPos : At W5 (X + 1) 43 #[.int .i64 L, .int .i64 C] := by
   rw [← hW3]
   have := (kQ.put 0 (.int .i64 L)).put 1 (.int .i64 C)
   simpa using this
  clear hW3 hW9 kx0 kQ hb9 y0 y1 yf0 yf1 hRow hz0' hX h1c
  have kQa := kPos
  clear hB4 hV4 kPos
  go_wp2_with fail
  refine (HP2.out W5).mono ?_
  rintro e w6 ⟨p2, rfl, hV6, hb6⟩
  have hB6 := Lib.hid (below_then hBW5.out hb6)
  have kXa := kX.bel hb6
  have kQb := kQa.bel hb6
  have hVa := Lib.hid (hVW5.out.up hb6)
  replace hV6 := Lib.hid hV6
  clear hb6 hBW5 HP2 kX hVW5 hbW5 kQa
  obtain ⟨X2, hX2⟩ : ∃ X, w6.heap.size = X := ⟨_, rfl⟩
  have h1c := detV_one hV6.out
  have hszX2 := detC_size d p2
  have hRow : Hid (∀ W9, ((w6.alloc (.cells zeroD 34)).alloc (.cells #[.int .i64 0, .int .i64 0] 43)).setRow X2 (detC d p2) = W9 → At W9 X2 34 (detC d p2) ∧ At W9 (X2 + 1) 43 #[.int .i64 0, .int .i64 0] ∧ Hid (Below X2 w6 W9)) := Lib.hid fun W9 e => by
   have a0 : At ((w6.alloc (.cells zeroD 34)).alloc (.cells #[.int .i64 0, .int .i64 0] 43)) X2 34 zeroD := (At.new' hX2.symm).al _
   have a1 : At ((w6.alloc (.cells zeroD 34)).alloc (.cells #[.int .i64 0, .int .i64 0] 43)) (X2 + 1) 43 #[.int .i64 0, .int .i64 0] := At.new' (by simp [hX2])
   rw [← e]
   refine ⟨a0.rowAt, a1.row (by omega), Lib.hid (below_row ?_ (Nat.le_refl X2) _)⟩
   rw [← hX2]
   exact below_al (below_al (Below.refl _ _) _) _
  have hz0' : Hid (At ((w6.alloc (.cells zeroD 34)).alloc (.cells #[.int .i64 0, .int .i64 0] 43)) X2 34 zeroD) := Lib.hid ((At.new' hX2.symm).al _)
  go_upto_region 7 with (first | (refine wpList_store_row rfl 34 (.tmp 6) (.tmp 35) rfl X2 (detC d p2) (by simp [Act.eval, hX2]) (by simp [Act.eval]) 34 zeroD hz0'.out (by rw [hszX2]; kernel_rfl) (by rw [hszX2]; rfl) h1c ?_; generalize hW9 : World.setRow _ _ _ = W9; obtain ⟨kx0, kQ, hb9⟩ := hRow.out W9 hW9; have y0 : W9.cell? ⟨X2 + 1, 0, none⟩ = some (.int .i64 0) := kQ.c 0; have y1 : W9.cell? ⟨X2 + 1, 1, none⟩ = some (.int .i64 0) := kQ.c 1; have yf0 : W9.frozen? ⟨X2 + 1, 0, none⟩ = false := kQ.f 0; have yf1 : W9.frozen? ⟨X2 + 1, 1, none⟩ = false := kQ.f 1) | fail)
  generalize hW3 : World.setCell (World.setCell W9 _ _) _ _ = W7
  have kX2 : At W7 X2 34 (detC d p2) := by rw [← hW3]; exact (kx0.ne ⟨X2 + 1, 0, none⟩ _ (by simp)).ne ⟨X2 + 1, 1, none⟩ _ (by simp)
  have hbW7 : Below w6.heap.size w6 W7 := by rw [hX2, ← hW3]; exact below_sc (below_sc hb9.out (by omega) 0 _) (by omega) 1 _
  have hVW7 := Lib.hid (hV6.out.up hbW7)
  have hBW7 := Lib.hid (below_then hB6.out hbW7)
  have kPos : At W7 (X2 + 1) 43 #[.int .i64 L, .int .i64 C] := by
   rw [← hW3]
   have := (kQ.put 0 (.int .i64 L)).put 1 (.int .i64 C)
   simpa using this
  clear hW3 hW9 kx0 kQ hb9 y0 y1 yf0 yf1 hRow hz0' hX2 h1c
  have kXb := kXa.bel hbW7
  have kQc := kQb.bel hbW7
  have HQ := Lib.hid (same_any d d p1 p2 hS.out hS.out W7 (hVa.out.up hbW7) hVW7.out)
  rw [decide_eq_true rfl] at HQ
  clear hB6 hV6 kXa hVa hbW7 hVW7 kQb hS
  go_wp2_with (first | (refine wpList_load_row rfl 34 (.tmp 3) rfl X (by simp [Act.eval]) 34 (detC d p1) (0, 0) _ kXb Tryz.underlying34 rfl (by rw [hszX]; kernel_rfl) ?_) | (refine wpList_load_row rfl 34 (.tmp 6) rfl X2 (by simp [Act.eval, Act.put]) 34 (detC d p2) (0, 0) _ kX2 Tryz.underlying34 rfl (by rw [hszX2]; kernel_rfl) ?_) | fail)
  refine HQ.out.mono ?_
  rintro e w8 ⟨rfl, hb8⟩
  have a0 : w8.cell? ⟨X + 1, 0, none⟩ = some (.int .i64 L) := (kQc.bel hb8).c 0
  have a1 : w8.cell? ⟨X + 1, 1, none⟩ = some (.int .i64 C) := (kQc.bel hb8).c 1
  have c0 : w8.cell? ⟨X2 + 1, 0, none⟩ = some (.int .i64 L) := (kPos.bel hb8).c 0
  have c1 : w8.cell? ⟨X2 + 1, 1, none⟩ = some (.int .i64 C) := (kPos.bel hb8).c 1
  have hB8 := Lib.hid (below_then hBW7.out hb8)
  clear hb8 hBW7 HQ kXb kX2 kPos kQc
  go_wp2_with fail
  refine (HN1.out w8 (he0.out.bel hB8.out)).mono ?_
  rintro e w9 ⟨v1, v2, rfl, hs1, hs2, hb9⟩
  go_upto_region 10 with fail
  generalize hWW : World.alloc w9 _ = W9
  obtain ⟨Y, hY⟩ : ∃ Y, w9.heap.size = Y := ⟨_, rfl⟩
  have kY : At W9 Y 43 #[.int .i64 L2, .int .i64 C2] := by rw [← hWW]; exact At.new' hY.symm
  have hb10 : Below w9.heap.size w9 W9 := by rw [← hWW]; exact below_al (Below.refl _ _) _
  have hB9 := Lib.hid (below_then (below_then hB8.out hb9) hb10)
  replace hs1 := Lib.hid (hs1.up hb10)
  replace hs2 := Lib.hid (hs2.up hb10)
  clear hWW hb9 hb10 hB8 HN1 a0 a1 c0 c1
  rw [hY]
  clear hY
  go_wp2_with fail
  refine (HR1.out W9).mono ?_
  rintro e w10 ⟨p, rfl, hV10, hb10⟩
  have hB10 := Lib.hid (below_then hB9.out hb10)
  have kYa := kY.bel hb10
  replace hs1 := Lib.hid (hs1.out.up hb10)
  replace hs2 := Lib.hid (hs2.out.up hb10)
  clear hb10 hB9 HR1 kY
  obtain ⟨X3, hX3⟩ : ∃ X, w10.heap.size = X := ⟨_, rfl⟩
  have h1c := detV_one hV10.out
  have hszX3 := detC_size d2 p
  have hRow : Hid (∀ W9, ((w10.alloc (.cells zeroD 34)).alloc (.cells #[.int .i64 0, .int .i64 0] 43)).setRow X3 (detC d2 p) = W9 → At W9 X3 34 (detC d2 p) ∧ At W9 (X3 + 1) 43 #[.int .i64 0, .int .i64 0] ∧ Hid (Below X3 w10 W9)) := Lib.hid fun W9 e => by
   have a0 : At ((w10.alloc (.cells zeroD 34)).alloc (.cells #[.int .i64 0, .int .i64 0] 43)) X3 34 zeroD := (At.new' hX3.symm).al _
   have a1 : At ((w10.alloc (.cells zeroD 34)).alloc (.cells #[.int .i64 0, .int .i64 0] 43)) (X3 + 1) 43 #[.int .i64 0, .int .i64 0] := At.new' (by simp [hX3])
   rw [← e]
   refine ⟨a0.rowAt, a1.row (by omega), Lib.hid (below_row ?_ (Nat.le_refl X3) _)⟩
   rw [← hX3]
   exact below_al (below_al (Below.refl _ _) _) _
  have hz0' : Hid (At ((w10.alloc (.cells zeroD 34)).alloc (.cells #[.int .i64 0, .int .i64 0] 43)) X3 34 zeroD) := Lib.hid ((At.new' hX3.symm).al _)
  go_upto_region 11 with (first | (refine wpList_store_row rfl 34 (.tmp 13) (.tmp 62) rfl X3 (detC d2 p) (by simp [Act.eval, hX3]) (by simp [Act.eval]) 34 zeroD hz0'.out (by rw [hszX3]; kernel_rfl) (by rw [hszX3]; rfl) h1c ?_; generalize hW9 : World.setRow _ _ _ = W9; obtain ⟨kx0, kQ, hb9⟩ := hRow.out W9 hW9; have y0 : W9.cell? ⟨X3 + 1, 0, none⟩ = some (.int .i64 0) := kQ.c 0; have y1 : W9.cell? ⟨X3 + 1, 1, none⟩ = some (.int .i64 0) := kQ.c 1; have yf0 : W9.frozen? ⟨X3 + 1, 0, none⟩ = false := kQ.f 0; have yf1 : W9.frozen? ⟨X3 + 1, 1, none⟩ = false := kQ.f 1) | fail)
  generalize hW3 : World.setCell (World.setCell W9 _ _) _ _ = W2
  have kX3 : At W2 X3 34 (detC d2 p) := by rw [← hW3]; exact (kx0.ne ⟨X3 + 1, 0, none⟩ _ (by simp)).ne ⟨X3 + 1, 1, none⟩ _ (by simp)
  have hbW2 : Below w10.heap.size w10 W2 := by rw [hX3, ← hW3]; exact below_sc (below_sc hb9.out (by omega) 0 _) (by omega) 1 _
  have hVW2 := Lib.hid (hV10.out.up hbW2)
  have hBW2 := Lib.hid (below_then hB10.out hbW2)
  have kPos : At W2 (X3 + 1) 43 #[.int .i64 L2, .int .i64 C2] := by
   rw [← hW3]
   have := (kQ.put 0 (.int .i64 L2)).put 1 (.int .i64 C2)
   simpa using this
  clear hW3 hW9 kx0 kQ hb9 y0 y1 yf0 yf1 hRow hz0' hX3 h1c
  have kYb := kYa.bel hbW2
  replace hs1 := Lib.hid (hs1.out.up hbW2)
  replace hs2 := Lib.hid (hs2.out.up hbW2)
  have hDV2 := hVW2
  clear kYa hbW2 hB10 hV10 hVW2
  obtain ⟨Z, hZ⟩ : ∃ Z, W2.heap.size = Z := ⟨_, rfl⟩
  obtain ⟨ar, cr, er, -, -, hrow⟩ := hDV2.out.bars
  obtain ⟨ad, cd, ed, -, -, hdow⟩ := hDV2.out.dems
  have hzr : (d2.bars.zip p.db).length = d2.bars.length := by rw [List.length_zip, hDV2.out.nb]; simp
  have hzd : (d2.dems.zip p.ds).length = d2.dems.length := by rw [List.length_zip, hDV2.out.ns]; simp
  obtain ⟨nr, hnr⟩ : ∃ n, d2.bars.length = n := ⟨_, rfl⟩
  obtain ⟨nd, hnd⟩ : ∃ n, d2.dems.length = n := ⟨_, rfl⟩
  have hnr9 : nr ≤ 1000000 := by have := hfew.out; unfold manyD at this; omega
  have hnd9 : nd ≤ 1000000 := by have := hfew.out; unfold manyD at this; omega
  rw [hzr, hnr] at er
  rw [hzd, hnd] at ed
  have x6 : W2.cell? ⟨X3, 6, none⟩ = some (.slice ar nr cr) := by
   have := kX3.c 6
   rw [← er]
   exact this
  have hx9 : Hid (∀ W, Below Z W2 W → W.cell? ⟨X3, 9, none⟩ = some (.slice ad nd cd)) := Lib.hid fun W hb => by
   rw [← ed]
   exact (kX3.bel (by rw [hZ]; exact hb)).c 9
  have hPZ : Hid (∀ W, Below Z W2 W → W.cell? ⟨X3 + 1, 0, none⟩ = some (.int .i64 L2) ∧ W.cell? ⟨X3 + 1, 1, none⟩ = some (.int .i64 C2) ∧ W.cell? ⟨Y, 0, none⟩ = some (.int .i64 L2) ∧ W.cell? ⟨Y, 1, none⟩ = some (.int .i64 C2)) := Lib.hid fun W hb => ⟨(kPos.bel (by rw [hZ]; exact hb)).c 0, (kPos.bel (by rw [hZ]; exact hb)).c 1, (kYb.bel (by rw [hZ]; exact hb)).c 0, (kYb.bel (by rw [hZ]; exact hb)).c 1⟩
  have hsZ : Hid (∀ W, Below Z W2 W → IsS (marksD d2) v1 W ∧ IsS (namesD d2) v2 W) := Lib.hid fun W hb => ⟨hs1.out.up (by rw [hZ]; exact hb), hs2.out.up (by rw [hZ]; exact hb)⟩
  have hMr : Hid ((marksD d2).length = nr) := Lib.hid (by unfold marksD; rw [List.length_map, hnr])
  have hMd : Hid ((namesD d2).length = nd) := Lib.hid (by unfold namesD; rw [List.length_map, hnd])
  have hBar : Hid (∀ W k, Below Z W2 W → (hk : k < nr) → ∃ bb off NM e0 e1 e2 v4, ar = some ⟨bb, off, none⟩ ∧ (marksD d2)[k]? = some NM ∧ W.cell? ⟨bb, off + k * 5, none⟩ = some (.string NM) ∧ W.cell? ⟨bb, off + k * 5 + 1, none⟩ = some (.int .i64 e0) ∧ W.cell? ⟨bb, off + k * 5 + 2, none⟩ = some (.int .i64 e1) ∧ W.cell? ⟨bb, off + k * 5 + 3, none⟩ = some (.int .i64 e2) ∧ W.cell? ⟨bb, off + k * 5 + 4, none⟩ = some v4 ∧ IsSlc v4) := Lib.hid fun W k hb hk => by
   have hbw : Below W2.heap.size W2 W := by rw [hZ]; exact hb
   obtain ⟨bb, off, e, hbl, hc⟩ := hrow k (by rw [hzr, hnr]; exact hk)
   rw [List.getElem_zip] at hc
   refine ⟨bb, off, ⟨(d2.bars[k]'(by rw [hnr]; exact hk)).1.toArray⟩, _, _, _, p.db[k]'(by rw [hDV2.out.nb, hnr]; exact hk), e, ?_, (hbw.cell hbl).trans (hc 0 _ rfl), (hbw.cell hbl).trans (hc 1 _ rfl), (hbw.cell hbl).trans (hc 2 _ rfl), (hbw.cell hbl).trans (hc 3 _ rfl), (hbw.cell hbl).trans (hc 4 _ rfl), ?_⟩
   ·unfold marksD
    rw [List.getElem?_map, List.getElem?_eq_getElem (by rw [hnr]; exact hk)]
    rfl
   ·obtain ⟨a, c, q, _⟩ := hDV2.out.dims k (by rw [hnr]; exact hk) (by rw [hDV2.out.nb, hnr]; exact hk)
    exact ⟨_, _, _, q⟩
  have hDem : Hid (∀ W k, Below Z W2 W → (hk : k < nd) → ∃ bb off NM e0 e1 e2 e3 e4 e5 v4, ad = some ⟨bb, off, none⟩ ∧ (namesD d2)[k]? = some NM ∧ W.cell? ⟨bb, off + k * 8, none⟩ = some (.string NM) ∧ W.cell? ⟨bb, off + k * 8 + 1, none⟩ = some (.int .i64 e0) ∧ W.cell? ⟨bb, off + k * 8 + 2, none⟩ = some (.int .i64 e1) ∧ W.cell? ⟨bb, off + k * 8 + 3, none⟩ = some (.int .i64 e2) ∧ W.cell? ⟨bb, off + k * 8 + 4, none⟩ = some (.int .i64 e3) ∧ W.cell? ⟨bb, off + k * 8 + 5, none⟩ = some (.int .i64 e4) ∧ W.cell? ⟨bb, off + k * 8 + 6, none⟩ = some (.int .i64 e5) ∧ W.cell? ⟨bb, off + k * 8 + 7, none⟩ = some v4 ∧ IsSlc v4) := Lib.hid fun W k hb hk => by
   have hbw : Below W2.heap.size W2 W := by rw [hZ]; exact hb
   obtain ⟨bb, off, e, hbl, hc⟩ := hdow k (by rw [hzd, hnd]; exact hk)
   rw [List.getElem_zip] at hc
   refine ⟨bb, off, ⟨(d2.dems[k]'(by rw [hnd]; exact hk)).1.toArray⟩, _, _, _, _, _, _, p.ds[k]'(by rw [hDV2.out.ns, hnd]; exact hk), e, ?_, (hbw.cell hbl).trans (hc 0 _ rfl), (hbw.cell hbl).trans (hc 1 _ rfl), (hbw.cell hbl).trans (hc 2 _ rfl), (hbw.cell hbl).trans (hc 3 _ rfl), (hbw.cell hbl).trans (hc 4 _ rfl), (hbw.cell hbl).trans (hc 5 _ rfl), (hbw.cell hbl).trans (hc 6 _ rfl), (hbw.cell hbl).trans (hc 7 _ rfl), ?_⟩
   ·unfold namesD
    rw [List.getElem?_map, List.getElem?_eq_getElem (by rw [hnd]; exact hk)]
    rfl
   ·obtain ⟨a, c, q, _⟩ := hDV2.out.steps k (by rw [hnd]; exact hk) (by rw [hDV2.out.ns, hnd]; exact hk)
    exact ⟨_, _, _, q⟩
  replace hnr := Lib.hid hnr
  replace hnd := Lib.hid hnd
  clear er ed hrow hdow hzr hzd hDV2 kX3 hfew kPos kYb hs1 hs2
  generalize marksD d2 = mk at *
  generalize namesD d2 = dk at *
  go_wp2_with fail
  go_loopg [68, 16] nr (fun g i v wr => ∃ (k : Nat) (v0 : Value), v0 = v ∧ k ≤ nr ∧ i = .int .i64 (k : Int) ∧ Hid (g = nr - k) ∧ Hid (wr.ownsRow Z 9 1 v k ((mk.take k).flatMap encS)) ∧ Hid (Below Z W2 wr))
  case atStart => exact ⟨0, _, rfl, Nat.zero_le _, rfl, Lib.hid rfl, Lib.hid (World.ownsRow_nil _ _ _ _), Lib.hid (Below.refl _ _)⟩
  case round =>
   clear x6
   obtain ⟨k, v, rfl, hk, rfl, hg, ho, hb⟩ := hrel
   by_cases hlt : k < nr
   ·obtain ⟨bb, off, NM, e0, e1, e2, v4, rfl, hNM, q0, q1, q2, q3, q4, s1, s2, s3, rfl⟩ := hBar.out wr k hb.out hlt
    have hsuc : Hid ((mk.take (k + 1)).flatMap encS = (mk.take k).flatMap encS ++ [.string NM]) := Lib.hid (by
     have hkl : k < mk.length := by rw [hMr.out]; exact hlt
     rw [List.take_succ_eq_append_getElem hkl, List.flatMap_append, List.flatMap_singleton]
     rw [List.getElem?_eq_getElem hkl] at hNM
     injection hNM with hNM
     rw [hNM]
     rfl)
    clear hNM
    go_upto_region 15 with fail
    generalize hWW : World.alloc wr _ = W1
    have kb : At W1 wr.heap.size 56 #[.string NM, .int .i64 e0, .int .i64 e1, .int .i64 e2, .slice s1 s2 s3] := by rw [← hWW]; exact At.new' rfl
    have hB1 := Lib.hid (show Below Z W2 W1 by rw [← hWW, ← hZ]; exact below_al (by rw [hZ]; exact hb.out) _)
    have ho1 : Hid (W1.ownsRow Z 9 1 v k ((mk.take k).flatMap encS)) := Lib.hid (by rw [← hWW]; exact World.ownsRow.alloc ho.out _)
    have b0 : W1.cell? ⟨wr.heap.size, 0, none⟩ = some (.string NM) := kb.c 0
    clear hWW q0 q1 q2 q3 q4 kb hb ho
    have hZ1 := hB1.out.size
    rw [hZ] at hZ1
    go_wp2_with (at_builtin; refine wpList_append_own_at _ rfl _ _ 51 rfl Z 9 i0 (.string ⟨#[]⟩) 1 16 Tryz.underlying51 hi hz0 hz1 hz2 rfl (by decide) _ _ _ rfl (World.ownsRow.alloc ho1.out _) ⟨W1.heap.size, 0, none⟩ 1 1 [.string NM] rfl rfl (cell_one_new _ _ _) (by intro u hu; simp at hu; subst hu; rfl) (by unfold maxLen; omega) (by omega) (by simp; omega) ?_)
    intro v' w5 ho5 hg5 _ _
    have hb5 := Lib.hid (grown_z hZ hB1.out ho1.out ((World.grownBy_alloc _ _ _).trans hg5))
    have ho6 : Hid (w5.ownsRow Z 9 1 v' (k + 1) ((mk.take (k + 1)).flatMap encS)) := Lib.hid (by rw [hsuc.out]; exact ho5)
    clear ho5 hg5 hsuc ho1 hB1 hZ1 b0
    go_wp2_with fail
    go_roundg (nr - (k + 1))
    case measure => have := hg.out; omega
    case rel => exact ⟨k + 1, _, rfl, by omega, by go_num, Lib.hid rfl, ho6, hb5⟩
   ·obtain ⟨wo, rfl⟩ : ∃ wo, wo = wr := ⟨_, rfl⟩
    obtain rfl : nr = k := by omega
    have hS1 : Hid (∀ W, Below wo.heap.size wo W → IsS mk v W) := Lib.hid fun W hW => by
     have h1 := ho.out
     rw [List.take_of_length_le (by rw [hMr.out]; exact Nat.le_refl _)] at h1
     have e := hMr.out
     rw [← e] at h1
     exact (row_isS h1).up hW
    have x9 := hx9.out wo hb.out
    clear ho hBar hg hx9
    go_wp2_with fail
    go_loopg [81, 17] nd (fun g i v2 wr => ∃ (j : Nat) (v0 : Value), v0 = v2 ∧ j ≤ nd ∧ i = .int .i64 (j : Int) ∧ Hid (g = nd - j) ∧ Hid (wr.ownsRow wo.heap.size 9 1 v2 j ((dk.take j).flatMap encS)) ∧ Hid (Below wo.heap.size wo wr))
    case atStart => exact ⟨0, _, rfl, Nat.zero_le _, rfl, Lib.hid rfl, Lib.hid (World.ownsRow_nil _ _ _ _), Lib.hid (Below.refl _ _)⟩
    case round =>
     clear x9
     obtain ⟨j, u2, rfl, hk, rfl, hg, ho, hb3⟩ := hrel
     have hZr : Z ≤ wo.heap.size := by have := hb.out.size; omega
     have hb3Z := Lib.hid (show Below Z W2 wr from hb.out.trans (hb3.out.mono hZr))
     by_cases hlt : j < nd
     ·obtain ⟨bb, off, NM, e0, e1, e2, e3, e4, e5, v4, rfl, hNM, q0, q1, q2, q3, q4, q5, q6, q7, s1, s2, s3, rfl⟩ := hDem.out wr j hb3Z.out hlt
      have hsuc : Hid ((dk.take (j + 1)).flatMap encS = (dk.take j).flatMap encS ++ [.string NM]) := Lib.hid (by
       have hkl : j < dk.length := by rw [hMd.out]; exact hlt
       rw [List.take_succ_eq_append_getElem hkl, List.flatMap_append, List.flatMap_singleton]
       rw [List.getElem?_eq_getElem hkl] at hNM
       injection hNM with hNM
       rw [hNM]
       rfl)
      clear hNM hb3Z
      go_upto_region 20 with fail
      generalize hWW : World.alloc wr _ = W1
      have kb : At W1 wr.heap.size 63 #[.string NM, .int .i64 e0, .int .i64 e1, .int .i64 e2, .int .i64 e3, .int .i64 e4, .int .i64 e5, .slice s1 s2 s3] := by rw [← hWW]; exact At.new' rfl
      have hB1 := Lib.hid (show Below wo.heap.size wo W1 by rw [← hWW]; exact below_al hb3.out _)
      have ho1 : Hid (W1.ownsRow wo.heap.size 9 1 u2 j ((dk.take j).flatMap encS)) := Lib.hid (by rw [← hWW]; exact World.ownsRow.alloc ho.out _)
      have b0 : W1.cell? ⟨wr.heap.size, 0, none⟩ = some (.string NM) := kb.c 0
      clear hWW q0 q1 q2 q3 q4 q5 q6 q7 kb hb3 ho
      have hZ1 := hB1.out.size
      go_wp2_with (at_builtin; refine wpList_append_own_at _ rfl _ _ 51 rfl wo.heap.size 9 i0 (.string ⟨#[]⟩) 1 16 Tryz.underlying51 hi hz0 hz1 hz2 rfl (by decide) _ _ _ rfl (World.ownsRow.alloc ho1.out _) ⟨W1.heap.size, 0, none⟩ 1 1 [.string NM] rfl rfl (cell_one_new _ _ _) (by intro u hu; simp at hu; subst hu; rfl) (by unfold maxLen; omega) (by omega) (by simp; omega) ?_)
      intro v' w5 ho5 hg5 _ _
      have hb5 := Lib.hid (grown_z rfl hB1.out ho1.out ((World.grownBy_alloc _ _ _).trans hg5))
      have ho6 : Hid (w5.ownsRow wo.heap.size 9 1 v' (j + 1) ((dk.take (j + 1)).flatMap encS)) := Lib.hid (by rw [hsuc.out]; exact ho5)
      clear ho5 hg5 hsuc ho1 hB1 hZ1 b0
      go_wp2_with fail
      go_roundg (nd - (j + 1))
      case measure => have := hg.out; omega
      case rel => exact ⟨j + 1, _, rfl, by omega, by go_num, Lib.hid rfl, ho6, hb5⟩
     ·obtain rfl : nd = j := by omega
      have hS2 : IsS dk u2 wr := by
       have h1 := ho.out
       rw [List.take_of_length_le (by rw [hMd.out]; exact Nat.le_refl _)] at h1
       have e := hMd.out
       rw [← e] at h1
       exact row_isS h1
      obtain ⟨b0, b1, b2, b3⟩ := hPZ.out wr hb3Z.out
      obtain ⟨hm1, hm2⟩ := hsZ.out wr hb3Z.out
      have hT1 := Lib.hid (hS1.out wr hb3.out)
      have hT2 := Lib.hid hS2
      replace hm1 := Lib.hid hm1
      replace hm2 := Lib.hid hm2
      have hBf := Lib.hid (hBW2.out.trans (hb3Z.out.mono (by have := hBW2.out.size; omega)))
      have hZ2 := Lib.hid hPZ.out
      have hbz := Lib.hid hb3Z.out
      clear hS2 ho hS1 hb3 hb3Z hPZ hsZ hb hDem hlt hg hBW2
      go_wp2_with fail
      refine (eqS_same3 mk v1 v wr (by rw [hMr.out]; omega) hm1.out hT1.out).mono ?_
      rintro e w12 ⟨rfl, hb12⟩
      have hBg := Lib.hid (below_then hBf.out hb12)
      have hbz2 := hbz.out.trans (hb12.mono (by have := hbz.out.size; omega))
      obtain ⟨b0, b1, b2, b3⟩ := hZ2.out w12 hbz2
      replace hm2 := Lib.hid (hm2.out.up hb12)
      replace hT2 := Lib.hid (hT2.out.up hb12)
      replace hbz2 := Lib.hid hbz2
      clear hb12 hBf hm1 hT1 hbz
      go_wp2_with fail
      refine (eqS_same3 dk v2 u2 w12 (by rw [hMd.out]; omega) hm2.out hT2.out).mono ?_
      rintro e w13 ⟨rfl, hb13⟩
      have hBh := Lib.hid (below_then hBg.out hb13)
      obtain ⟨f0, f1, f2, f3⟩ := hZ2.out w13 (hbz2.out.trans (hb13.mono (by have := hbz2.out.size; omega)))
      clear hb13 hBg hm2 hT2 hbz2 hZ2 b0 b1 b2 b3
      go_wp2_with fail
      go_ret
      exact ⟨rfl, hBh.out⟩
end Go.Proofs.YtccakklnbhcbdaaGreatDoor
