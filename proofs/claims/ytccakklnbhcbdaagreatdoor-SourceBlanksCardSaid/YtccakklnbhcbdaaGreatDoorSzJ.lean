/- source: SourceBlanks, the walk. -/
import Derived.Test.YtccakklnbhcbdaaGreatDoorSzA
import Derived.Test.YtccakklnbhcbdaaGreatDoorSzH
import Derived.Test.YtccakklnbhcbdaaGreatDoorQk
import Derived.Test.YtccakklnbhcbdaaGreatDoorMBl
set_option linter.unusedVariables false
set_option linter.unusedSimpArgs false
namespace Go.Proofs.YtccakklnbhcbdaaGreatDoor
open Go.ChangeShapes Go.WideShapes Go.ChangeAt Go.RowKit

theorem wpList_load_row_x {P : Program} {ops : Array Oper} {rest : List Oper} {o : Oper} {a : Act} {w : World} {Q : Exit → Act → World → Prop} (hw : Region.wanted o (yielded ops a.tmps) = true) (ty : TypeId) (x : Operand) (ho : o.op = .load ty x)
    (g : Nat) (hx : a.eval x = .pointer (some ⟨g, 0, none⟩)) (t : TypeId) (cs : Array Value) (fr : Nat × Nat) (d : TypeDesc) (hg : w.heap[g]? = some (.cells cs t fr))
    (hu : P.underlying ty = some d) (hd : (match d with | .struct _ | .array _ _ => true | _ => false) = true) (hi : (P.info? ty).map (·.size) = some cs.size)
    (h : wpList P ops Q rest (a.put o.dst (.agg cs)) w) : wpList P ops Q (o :: rest) a w :=
  wpList_step fun K hK => by rw [if_pos hw]; exact wp_load_row ty x ho g hx t cs fr d hg hu hd hi (hK _ _ h)
theorem eqS_same2 (l : List ByteArray) (v1 v2 : Value) (w : World) (h : l.length ≤ 10000000) (r1 : IsS l v1 w) (r2 : IsS l v2 w) : Calls Tryz.prog 22 #[v1, v2] w fun e w' => e = .returned (.bool true) ∧ Below w.heap.size w w' := by
  have := eqS_any l l v1 v2 w h h r1 r2
  rwa [decide_eq_true rfl] at this
theorem no_one : noB 10 [32, 110, 111, 116, 104, 105, 110, 103] := fun b hb e => by subst e; simp at hb
theorem no_two : noB 10 [32, 98, 111, 120, 32, 49] := fun b hb e => by subst e; simp at hb
theorem fil_four {k : Int} (hk : 0 ≤ k) : ∃ FF : ByteArray, [Value.string ⟨#[32]⟩, .string ⟨#[9]⟩, .string ⟨#[32, 32, 35, 32, 110, 111, 116, 104, 105, 110, 103]⟩, .string ⟨#[35, 32, 98, 111, 120, 32, 49]⟩][(k % 4).toNat]? = some (.string FF) ∧ Fil (by_ FF) ∧ FF.size ≤ 11 := by
  have h : (k % 4).toNat = 0 ∨ (k % 4).toNat = 1 ∨ (k % 4).toNat = 2 ∨ (k % 4).toNat = 3 := by omega
  rcases h with h | h | h | h <;> rw [h]
  · exact ⟨⟨#[32]⟩, rfl, fil_sp, by decide⟩
  · exact ⟨⟨#[9]⟩, rfl, fil_tab, by decide⟩
  · exact ⟨⟨#[32, 32, 35, 32, 110, 111, 116, 104, 105, 110, 103]⟩, rfl, fil_more (fil_more (fil_note no_one)), by decide⟩
  · exact ⟨⟨#[35, 32, 98, 111, 120, 32, 49]⟩, rfl, fil_note no_two, by decide⟩
theorem in_byte : ∀ (l : List UInt8) (c : UInt8), c ∈ l → 0 ≤ Lib.indexByte l c
  | [], c, h => by cases h
  | b :: l, c, h => by
    unfold Lib.indexByte
    by_cases e : b = c
    · rw [if_pos (by simpa using e)]; exact Int.le_refl _
    · rw [if_neg (by simpa using e)]
      have := in_byte l c (by
        rcases List.mem_cons.1 h with q | q
        · exact absurd q.symm e
        · exact q)
      rw [if_neg (by intro q; rw [beq_iff_eq] at q; omega)]
      omega
/-- Parse answers by what is read. -/
theorem srcS_eq {l m : List UInt8} (h1 : (readS m).1 = (readS l).1) (h2 : (readS m).2.2 = (readS l).2.2) : (srcS m).1 = (srcS l).1 ∧ (srcS m).2.2 = (srcS l).2.2 := by
  unfold srcS
  rw [h1, h2]
  by_cases h : (readS l).2.2 ≠ 0
  · rw [if_pos h, if_pos h]
    exact ⟨h1, h2⟩
  · rw [if_neg h, if_neg h]
    by_cases hw : wrD (readS l).1 = true
    · rw [if_pos hw, if_pos hw]
      exact ⟨h1, h2⟩
    · rw [if_neg hw, if_neg hw]
      exact ⟨rfl, rfl⟩

set_option maxRecDepth 100000 in
theorem blanks_long (S : ByteArray) (k : Int) (hz : 2000 < S.size) (w : World) (he : Env w) : Calls Tryz.prog 8 #[.string S, .int .u8 k] w fun e w' => e = .returned (.bool true) ∧ Below w.heap.size w w' := by
  have hd : decide ((2000 : Int) < (S.size : Int)) = true := decide_eq_true (by omega)
  go_enter Tryz.func8, Tryz.ntmps8
  go_wp2_with fail
  refine (awake_any w he).mono ?_
  rintro e w1 ⟨rfl, hb1⟩
  go_wp2_with fail
  go_ret
  exact ⟨rfl, hb1⟩
set_option maxRecDepth 100000 in
set_option maxHeartbeats 4000000 in
theorem blanks_short (S : ByteArray) (k : Int) (hk : 0 ≤ k ∧ k ≤ 255) (hz : S.size ≤ 2000) (w : World) (he : Env w) : Calls Tryz.prog 8 #[.string S, .int .u8 k] w fun e w' => e = .returned (.bool true) ∧ Below w.heap.size w w' := by
  have hd : decide ((2000 : Int) < (S.size : Int)) = false := decide_eq_false (by omega)
  have hbl : (by_ S).length ≤ 2000 := by rw [by_len]; exact hz
  have HN := Lib.hid fun (S : ByteArray) (W : World) (h : Env W) => names_any S W h
  have HP := Lib.hid fun (S : ByteArray) (W : World) (h : Env W) => parse_any S W h
  obtain ⟨cn, hcn⟩ : ∃ b, decide (0 ≤ Lib.indexByte S.data.toList 35) = b := ⟨_, rfl⟩
  have HC : Hid (∀ W, Calls Tryz.prog 29 #[.string S, .string ⟨#[35]⟩] W fun e w' => e = .returned (.bool cn) ∧ w' = W) := Lib.hid fun W => by
    rw [← hcn]
    exact Tryz.strings_Contains_one S 35 W
  have h35 : Hid (cn = false → noB 35 (by_ S)) := Lib.hid fun h b hb e => by
    rw [h] at hcn
    exact of_decide_eq_false hcn (in_byte _ _ (e ▸ hb))
  have hfew := Lib.hid (readS_few (by_ S))
  have he0 := Lib.hid he
  clear hcn
  go_enter Tryz.func8, Tryz.ntmps8
  go_wp2_with fail
  refine (awake_any w he).mono ?_
  rintro e w1 ⟨rfl, hb1⟩
  have hB1 := Lib.hid hb1
  clear hb1 he
  go_wp2_with fail
  refine (HC.out w1).mono ?_
  rintro e w2 ⟨rfl, rfl⟩
  cases cn with
  | true =>
    go_wp2_with fail
    go_ret
    exact ⟨rfl, hB1.out⟩
  | false =>
    replace h35 := Lib.hid (h35.out rfl)
    obtain ⟨FF, hFF, hFil, hFs⟩ := fil_four hk.1
    obtain ⟨MR, hMR⟩ : ∃ MR : ByteArray, MR = ⟨(repB (by_ FF) (by_ S)).toArray⟩ := ⟨_, rfl⟩
    have hbm : by_ MR = repB (by_ FF) (by_ S) := by rw [hMR, mk_by]
    obtain ⟨g1, g2⟩ := blank_read hFil (by rw [by_len]; exact hFs) h35.out hbl
    obtain ⟨g3, g4⟩ := srcS_eq g1 g2
    have HR : Hid (∀ W, Env W → Calls Tryz.prog 30 #[.string S, .string ⟨#[10]⟩, .string (FF ++ (⟨#[10, 10]⟩ : ByteArray))] W fun e w' => e = .returned (.string MR) ∧ Below W.heap.size W w') := Lib.hid fun W h => by
      obtain ⟨m, hm⟩ := h.mx
      have hc := Lib.countB_le ⟨#[10]⟩ (by decide) S.size S (Nat.le_refl _)
      have h := Tryz.strings_ReplaceAll S ⟨#[10]⟩ (FF ++ (⟨#[10, 10]⟩ : ByteArray)) m W (by omega) hm (by decide) (by
        have hn : (FF ++ (⟨#[10, 10]⟩ : ByteArray)).size ≤ 13 := by
          rw [ByteArray.size_append]
          show FF.size + 2 ≤ 13
          omega
        have := Nat.mul_le_mul (Nat.le_trans hc hz) hn
        omega)
      have e1 : Lib.replaceAll S.data.toList (⟨#[10]⟩ : ByteArray).data.toList (FF ++ (⟨#[10, 10]⟩ : ByteArray)).data.toList = repB (by_ FF) (by_ S) := by
        rw [show (FF ++ (⟨#[10, 10]⟩ : ByteArray)).data.toList = by_ FF ++ [10, 10] from by_append _ _]
        exact repl_all (by_ FF) (by_ S)
      rw [e1, ← hMR] at h
      exact h
    have HPS : ∀ T : ByteArray, (srcS (by_ T)).1 = (srcS (by_ S)).1 → (srcS (by_ T)).2.2 = (srcS (by_ S)).2.2 → Hid (∀ W, Env W → Calls Tryz.prog 18 #[.string T] W fun e w' => ∃ p L C, e = .returned (.tuple #[.agg (detC (srcS (by_ S)).1 p), .agg #[.int .i64 L, .int .i64 C], .int .i64 (srcS (by_ S)).2.2]) ∧ Hid (DetV w' (srcS (by_ S)).1 p) ∧ Below W.heap.size W w') := fun T q1 q2 => Lib.hid fun W h => by
      have h1 := HP.out T W h
      unfold ParE at h1
      rw [q1, q2] at h1
      exact h1.mono fun e w' ⟨p, a, b, c⟩ => ⟨p, _, _, a, Lib.hid b, c⟩
    have HNS : ∀ T : ByteArray, (readS (by_ T)).1 = (readS (by_ S)).1 → (readS (by_ T)).2.2 = (readS (by_ S)).2.2 → Hid (∀ W, Env W → Calls Tryz.prog 20 #[.string T] W fun e w' => ∃ v1 v2 L C, e = .returned (.tuple #[v1, v2, .agg #[.int .i64 L, .int .i64 C], .int .i64 (readS (by_ S)).2.2]) ∧ Hid (IsS (marksD (readS (by_ S)).1) v1 w') ∧ Hid (IsS (namesD (readS (by_ S)).1) v2 w') ∧ Below W.heap.size W w') := fun T q1 q2 => Lib.hid fun W h => by
      have h1 := HN.out T W h
      unfold NamesE at h1
      rw [q1, q2] at h1
      exact h1.mono fun e w' ⟨v1, v2, a, b, c, d⟩ => ⟨v1, v2, _, _, a, Lib.hid b, Lib.hid c, d⟩
    have HP1 := HPS S rfl rfl
    have HP2 := HPS MR (by rw [hbm]; exact g3) (by rw [hbm]; exact g4)
    have HN1 := HNS S rfl rfl
    have HN2 := HNS MR (by rw [hbm]; exact g1) (by rw [hbm]; exact g2)
    have hS : Hid ((srcS (by_ S)).1.sh) := Lib.hid (srcS_sh _)
    have hml : Hid ((marksD (readS (by_ S)).1).length ≤ 1000000 ∧ (namesD (readS (by_ S)).1).length ≤ 1000000) := Lib.hid (by
      have := hfew.out
      unfold manyD at this
      unfold marksD namesD
      rw [List.length_map, List.length_map]
      omega)
    have hct : (9223372036854775807 < FF.size + 2) = False := eq_false (by omega)
    have hsb : (⟨#[10, 10]⟩ : ByteArray).size = 2 := rfl
    clear HPS HNS g1 g2 g3 g4 hbm hfew HN HP hFil hbl h35 hMR HC
    generalize marksD (readS (by_ S)).1 = mk at *
    generalize namesD (readS (by_ S)).1 = dk at *
    generalize (readS (by_ S)).2.2 = F0 at *
    generalize (srcS (by_ S)).1 = d at *
    generalize (srcS (by_ S)).2.2 = E at *
    go_wp2_with fail
    generalize hWW : World.alloc w2 _ = W0
    have hB2 := Lib.hid (show Below w.heap.size w W0 by rw [← hWW]; exact below_al hB1.out _)
    clear hWW hB1 hFF
    refine (HR.out W0 (he0.out.bel hB2.out)).mono ?_
    rintro e w3 ⟨rfl, hb3⟩
    have hB3 := Lib.hid (below_then hB2.out hb3)
    clear hb3 hB2 HR
    go_wp2_with fail
    refine (HP1.out w3 (he0.out.bel hB3.out)).mono ?_
    rintro e w4 ⟨p1, L1, C1, rfl, hV4, hb4⟩
    have hB4 := Lib.hid (below_then hB3.out hb4)
    clear hb4 hB3 HP1
    obtain ⟨X, hX⟩ : ∃ X, w4.heap.size = X := ⟨_, rfl⟩
    have h1c := detV_one hV4.out
    have hszX := detC_size d p1
    have hRow : Hid (∀ W9, ((w4.alloc (.cells zeroD 34)).alloc (.cells #[.int .i64 0, .int .i64 0] 43)).setRow X (detC d p1) = W9 → At W9 X 34 (detC d p1) ∧ At W9 (X + 1) 43 #[.int .i64 0, .int .i64 0] ∧ Hid (Below X w4 W9)) := Lib.hid fun W9 e => by
      have a0 : At ((w4.alloc (.cells zeroD 34)).alloc (.cells #[.int .i64 0, .int .i64 0] 43)) X 34 zeroD := (At.new' hX.symm).al _
      have a1 : At ((w4.alloc (.cells zeroD 34)).alloc (.cells #[.int .i64 0, .int .i64 0] 43)) (X + 1) 43 #[.int .i64 0, .int .i64 0] := At.new' (by simp [hX])
      rw [← e]
      refine ⟨a0.rowAt, a1.row (by omega), Lib.hid (below_row ?_ (Nat.le_refl X) _)⟩
      rw [← hX]
      exact below_al (below_al (Below.refl _ _) _) _
    have hz0' : Hid (At ((w4.alloc (.cells zeroD 34)).alloc (.cells #[.int .i64 0, .int .i64 0] 43)) X 34 zeroD) := Lib.hid ((At.new' hX.symm).al _)
    go_upto_region 8 with (first | (refine wpList_store_row rfl 34 (.tmp 7) (.tmp 43) rfl X (detC d p1) (by simp [Act.eval, hX]) (by simp [Act.eval]) 34 zeroD hz0'.out (by rw [hszX]; kernel_rfl) (by rw [hszX]; rfl) h1c ?_; generalize hW9 : World.setRow _ _ _ = W9; obtain ⟨kx0, kQ, hb9⟩ := hRow.out W9 hW9; have y0 : W9.cell? ⟨X + 1, 0, none⟩ = some (.int .i64 0) := kQ.c 0; have y1 : W9.cell? ⟨X + 1, 1, none⟩ = some (.int .i64 0) := kQ.c 1; have yf0 : W9.frozen? ⟨X + 1, 0, none⟩ = false := kQ.f 0; have yf1 : W9.frozen? ⟨X + 1, 1, none⟩ = false := kQ.f 1) | fail)
    generalize hW3 : World.setCell (World.setCell W9 _ _) _ _ = W5
    have kX : At W5 X 34 (detC d p1) := by rw [← hW3]; exact (kx0.ne ⟨X + 1, 0, none⟩ _ (by simp)).ne ⟨X + 1, 1, none⟩ _ (by simp)
    have hbW5 : Below w4.heap.size w4 W5 := by rw [hX, ← hW3]; exact below_sc (below_sc hb9.out (by omega) 0 _) (by omega) 1 _
    have hVW5 := Lib.hid (hV4.out.up hbW5)
    have hBW5 := Lib.hid (below_then hB4.out hbW5)
    clear hW3 hW9 kx0 kQ hb9 y0 y1 yf0 yf1 hRow hz0' hX h1c
    clear hB4 hV4
    go_wp2_with fail
    refine (HP2.out W5 (he0.out.bel hBW5.out)).mono ?_
    rintro e w6 ⟨p2, L2, C2, rfl, hV6, hb6⟩
    have hB6 := Lib.hid (below_then hBW5.out hb6)
    have kXa := kX.bel hb6
    have hVa := Lib.hid (hVW5.out.up hb6)
    clear hb6 hBW5 HP2 kX hVW5 hbW5
    obtain ⟨X2, hX2⟩ : ∃ X, w6.heap.size = X := ⟨_, rfl⟩
    have h1c := detV_one hV6.out
    have hszX2 := detC_size d p2
    have hRow : Hid (∀ W9, ((w6.alloc (.cells zeroD 34)).alloc (.cells #[.int .i64 0, .int .i64 0] 43)).setRow X2 (detC d p2) = W9 → At W9 X2 34 (detC d p2) ∧ At W9 (X2 + 1) 43 #[.int .i64 0, .int .i64 0] ∧ Hid (Below X2 w6 W9)) := Lib.hid fun W9 e => by
      have a0 : At ((w6.alloc (.cells zeroD 34)).alloc (.cells #[.int .i64 0, .int .i64 0] 43)) X2 34 zeroD := (At.new' hX2.symm).al _
      have a1 : At ((w6.alloc (.cells zeroD 34)).alloc (.cells #[.int .i64 0, .int .i64 0] 43)) (X2 + 1) 43 #[.int .i64 0, .int .i64 0] := At.new' (by simp [hX2])
      rw [← e]
      refine ⟨a0.rowAt, a1.row (by omega), Lib.hid (below_row ?_ (Nat.le_refl X2) _)⟩
      rw [← hX2]
      exact below_al (below_al (Below.refl _ _) _) _
    have hz0' : Hid (At ((w6.alloc (.cells zeroD 34)).alloc (.cells #[.int .i64 0, .int .i64 0] 43)) X2 34 zeroD) := Lib.hid ((At.new' hX2.symm).al _)
    go_upto_region 9 with (first | (refine wpList_store_row rfl 34 (.tmp 10) (.tmp 49) rfl X2 (detC d p2) (by simp [Act.eval, hX2]) (by simp [Act.eval]) 34 zeroD hz0'.out (by rw [hszX2]; kernel_rfl) (by rw [hszX2]; rfl) h1c ?_; generalize hW9 : World.setRow _ _ _ = W9; obtain ⟨kx0, kQ, hb9⟩ := hRow.out W9 hW9; have y0 : W9.cell? ⟨X2 + 1, 0, none⟩ = some (.int .i64 0) := kQ.c 0; have y1 : W9.cell? ⟨X2 + 1, 1, none⟩ = some (.int .i64 0) := kQ.c 1; have yf0 : W9.frozen? ⟨X2 + 1, 0, none⟩ = false := kQ.f 0; have yf1 : W9.frozen? ⟨X2 + 1, 1, none⟩ = false := kQ.f 1) | fail)
    generalize hW3 : World.setCell (World.setCell W9 _ _) _ _ = W7
    have kX2 : At W7 X2 34 (detC d p2) := by rw [← hW3]; exact (kx0.ne ⟨X2 + 1, 0, none⟩ _ (by simp)).ne ⟨X2 + 1, 1, none⟩ _ (by simp)
    have hbW7 : Below w6.heap.size w6 W7 := by rw [hX2, ← hW3]; exact below_sc (below_sc hb9.out (by omega) 0 _) (by omega) 1 _
    have hVW7 := Lib.hid (hV6.out.up hbW7)
    have hBW7 := Lib.hid (below_then hB6.out hbW7)
    clear hW3 hW9 kx0 kQ hb9 y0 y1 yf0 yf1 hRow hz0' hX2 h1c
    have kXb := kXa.bel hbW7
    have hVb := Lib.hid (hVa.out.up hbW7)
    clear hB6 hV6 kXa hVa hbW7
    go_wp2_with fail
    refine (HN1.out W7 (he0.out.bel hBW7.out)).mono ?_
    rintro e w8 ⟨v1, v2, L3, C3, rfl, hs1, hs2, hb8⟩
    go_upto_region 10 with fail
    generalize hWW : World.alloc w8 _ = W9
    have hb9 : Below w8.heap.size w8 W9 := by rw [← hWW]; exact below_al (Below.refl _ _) _
    have kXc := (kXb.bel hb8).bel hb9
    have kX2c := (kX2.bel hb8).bel hb9
    have hVc := Lib.hid ((hVb.out.up hb8).up hb9)
    have hV2c := Lib.hid ((hVW7.out.up hb8).up hb9)
    have hB9 := Lib.hid (below_then (below_then hBW7.out hb8) hb9)
    replace hs1 := Lib.hid (hs1.out.up hb9)
    replace hs2 := Lib.hid (hs2.out.up hb9)
    clear hWW hb8 hb9 kXb kX2 hVb hVW7 hBW7 HN1
    go_wp2_with fail
    refine (HN2.out W9 (he0.out.bel hB9.out)).mono ?_
    rintro e w10 ⟨u1, u2, L4, C4, rfl, ht1, ht2, hb10⟩
    go_upto_region 11 with fail
    generalize hWW : World.alloc w10 _ = W11
    have hb11 : Below w10.heap.size w10 W11 := by rw [← hWW]; exact below_al (Below.refl _ _) _
    have kXd := (kXc.bel hb10).bel hb11
    have kX2d := (kX2c.bel hb10).bel hb11
    have HQ := Lib.hid (same_any d d p1 p2 hS.out hS.out W11 ((hVc.out.up hb10).up hb11) ((hV2c.out.up hb10).up hb11))
    rw [decide_eq_true rfl] at HQ
    have hB11 := Lib.hid (below_then (below_then hB9.out hb10) hb11)
    replace hs1 := Lib.hid ((hs1.out.up hb10).up hb11)
    replace hs2 := Lib.hid ((hs2.out.up hb10).up hb11)
    replace ht1 := Lib.hid (ht1.out.up hb11)
    replace ht2 := Lib.hid (ht2.out.up hb11)
    clear hWW hb10 hb11 kXc kX2c hVc hV2c hB9 HN2 hS
    go_wp2_with (first | (refine wpList_load_row_x (by rfl) 34 (.tmp 7) rfl X (by simp [Act.eval, Act.put]) 34 (detC d p1) (0, 0) _ kXd Tryz.underlying34 rfl (by rw [hszX]; kernel_rfl) ?_) | (refine wpList_load_row_x (by rfl) 34 (.tmp 10) rfl X2 (by simp [Act.eval, Act.put]) 34 (detC d p2) (0, 0) _ kX2d Tryz.underlying34 rfl (by rw [hszX2]; kernel_rfl) ?_) | fail)
    refine HQ.out.mono ?_
    rintro e w12 ⟨rfl, hb12⟩
    have hB12 := Lib.hid (below_then hB11.out hb12)
    replace hs1 := Lib.hid (hs1.out.up hb12)
    replace hs2 := Lib.hid (hs2.out.up hb12)
    replace ht1 := Lib.hid (ht1.out.up hb12)
    replace ht2 := Lib.hid (ht2.out.up hb12)
    clear hb12 hB11 kXd kX2d HQ
    go_wp2_with fail
    refine (eqS_same2 mk v1 u1 w12 (by have := hml.out; omega) hs1.out ht1.out).mono ?_
    rintro e w13 ⟨rfl, hb13⟩
    have hB13 := Lib.hid (below_then hB12.out hb13)
    replace hs2 := Lib.hid (hs2.out.up hb13)
    replace ht2 := Lib.hid (ht2.out.up hb13)
    clear hb13 hB12 hs1 ht1
    go_wp2_with fail
    refine (eqS_same2 dk v2 u2 w13 (by have := hml.out; omega) hs2.out ht2.out).mono ?_
    rintro e w14 ⟨rfl, hb14⟩
    have hB14 := Lib.hid (below_then hB13.out hb14)
    clear hb14 hB13 hs2 ht2
    go_wp2_with fail
    go_ret
    exact ⟨rfl, hB14.out⟩

theorem sourceBlanks_walk (S : ByteArray) (k : Int) (hw : (Lit.int .u8 k).wf = true) (w : World) (he : Env w) : Calls Tryz.prog 8 #[.string S, .int .u8 k] w fun e w' => e = .returned (.bool true) ∧ Below w.heap.size w w' := by
  have hk : 0 ≤ k ∧ k ≤ 255 := by
    simp only [Lit.wf, Bool.and_eq_true, decide_eq_true_eq] at hw
    exact hw
  by_cases hz : S.size ≤ 2000
  · exact blanks_short S k hk hz w he
  · exact blanks_long S k (by omega) w he

end Go.Proofs.YtccakklnbhcbdaaGreatDoor
