/- slices.symMergeCmpFunc only moves elements. -/
import Derived.Test.YtjlkbmaigcgnbaaDoorBJ23
set_option linter.unusedVariables false
namespace Go.Proofs.YtjlkbmaigcgnbaaDoor
open Go.ChangeShapes Go.WideShapes Go.ChangeAt Go.RowKit
set_option maxRecDepth 100000 in
set_option maxHeartbeats 1000000 in
theorem symA_any (f : Nat → Int) (X base g cap n : Nat) (w0 : World) (hn : n ≤ 1000000) (hbs0 : base ≤ w0.heap.size) (HC : Hid (∀ i k, i < n → k < n → ∀ W, Below base w0 W → Calls Tryd.prog 48 #[.int .i64 (i : Int), .int .i64 (k : Int), .pointer (some ⟨X, 0, none⟩)] W fun e w' => e = .returned (.int .i64 (f k - f i)) ∧ Below W.heap.size W w')) (a m b : Nat) (D : List Nat) (w : World) (h1 : a < m) (h2 : m < b) (h3 : b ≤ n) (hDn : ∀ y ∈ D, y < n) (hw : Below base w0 w) (hP0 : PmW base g cap n w D) (hs : m - a = 1) :
    Calls Tryd.prog 83 #[.slice (some ⟨g, 0, none⟩) n cap, .int .i64 (a : Int), .int .i64 (m : Int), .int .i64 (b : Int), .func (.func 48) #[] #[.pointer (some ⟨X, 0, none⟩)]] w fun e w' => e = .returned (.tuple #[]) ∧ PmR base g cap n D w w' := by
  have hbs := Nat.le_trans hbs0 hw.size
  have hg := hP0.own
  have h0 := Lib.hid hP0
  replace hDn := Lib.hid hDn
  clear hP0
  obtain ⟨d1, hd1⟩ : ∃ d1, m - a = d1 := ⟨_, rfl⟩
  have y1 : IntKind.i64.wrap ((m : Int) - (a : Int)) = (d1 : Int) := by rw [IntWalk.i64_in _ (by omega)]; omega
  have yc : ((d1 : Int) == 1) = true := by simp; omega
  go_enter Tryd.func83, Tryd.ntmps83
  go_wp2_with fail
  go_loopg [10, 11] (b - m) (fun g1 u v wr => ∃ (i j : Nat), u = .int .i64 (i : Int) ∧ v = .int .i64 (j : Int) ∧ (m ≤ i ∧ i ≤ j ∧ j ≤ b) ∧ Hid (g1 = j - i) ∧ Below base w wr ∧ Hid (PmW base g cap n wr D))
  case atStart => exact ⟨m, b, rfl, rfl, by omega, Lib.hid rfl, Below.refl _ _, h0⟩
  case round =>
    obtain ⟨i, j, rfl, rfl, hij, hr, HB, hW⟩ := hrel
    by_cases hlt : i < j
    · obtain ⟨S, hS⟩ : ∃ S, i + j = S := ⟨_, rfl⟩
      obtain ⟨h, hh⟩ : ∃ h, S / 2 = h := ⟨_, rfl⟩
      have z1 : IntKind.i64.wrap ((i : Int) + (j : Int)) = (S : Int) := by rw [IntWalk.i64_in _ (by omega)]; omega
      have z2 : IntKind.u64.wrap (S : Int) = (S : Int) := IntWalk.u64_in _ (by omega)
      have z3 : (S : Int) / 2 = (h : Int) := by omega
      have z4 : IntKind.u64.wrap (h : Int) = (h : Int) := IntWalk.u64_in _ (by omega)
      have z5 : IntKind.i64.wrap (h : Int) = (h : Int) := IntWalk.i64_in _ (by omega)
      have x8 : IntKind.i64.wrap ((h : Int) + 1) = ((h + 1 : Nat) : Int) := by rw [IntWalk.i64_in _ (by omega)]; omega
      have x9 : h < n := by omega
      have lp : Hid (h < D.length) := Lib.hid (by rw [hW.out.len]; omega)
      obtain ⟨cp, -⟩ := hW.out.cell lp.out
      have hyp := hDn.out _ (List.getElem_mem lp.out)
      obtain ⟨yp, ep⟩ : ∃ y, D[h]'lp.out = y := ⟨_, rfl⟩
      replace cp : wr.cell? ⟨g, h, none⟩ = some (.int .i64 (yp : Int)) := by rw [← ep]; exact cp
      replace hyp : yp < n := by rw [← ep]; exact hyp
      have Kp := cell_regrown cp
      have lq : Hid (a < D.length) := Lib.hid (by rw [hW.out.len]; omega)
      obtain ⟨cq, -⟩ := hW.out.cell lq.out
      have hyq := hDn.out _ (List.getElem_mem lq.out)
      obtain ⟨yq, eq⟩ : ∃ y, D[a]'lq.out = y := ⟨_, rfl⟩
      replace cq : wr.cell? ⟨g, a, none⟩ = some (.int .i64 (yq : Int)) := by rw [← eq]; exact cq
      replace hyq : yq < n := by rw [← eq]; exact hyq
      have Kq := cell_regrown cq
      have HCk := Lib.hid (fun (W : World) (hb : Below wr.heap.size wr W) => HC.out yp yq hyp hyq W (hw.trans (HB.trans (hb.mono (Nat.le_trans hbs HB.size)))))
      by_cases q9 : f yq - f yp < 0
      · have g5 : decide (f yq - f yp < 0) = true := decide_eq_true (by omega)
        go_upto_region 5 with fail
        refine wp_region_quiet_below (by kernel_rfl) (by kernel_rfl) ?_
        repeat (go_big_quiet_step ((first | with_reducible exact regrown_call_at HCk.out)))
        refine wpQuiet_nil ?_
        intro v1 hb'
        have hb := below_of_regrown hb'
        have HB1 : Below base w v1 := HB.trans (hb.mono (Nat.le_trans hbs HB.size))
        have hW1 := Lib.hid (hW.out.up hb)
        clear hb' hb cp cq Kp Kq HCk HB hW
        go_wp2_with fail
        go_roundg (j - (h + 1))
        case measure => have := hr.out; omega
        case rel => exact ⟨h + 1, j, by go_num, rfl, by omega, Lib.hid rfl, HB1, hW1⟩
      · have g5 : decide (f yq - f yp < 0) = false := decide_eq_false (by omega)
        go_upto_region 5 with fail
        refine wp_region_quiet_below (by kernel_rfl) (by kernel_rfl) ?_
        repeat (go_big_quiet_step ((first | with_reducible exact regrown_call_at HCk.out)))
        refine wpQuiet_nil ?_
        intro v1 hb'
        have hb := below_of_regrown hb'
        have HB1 : Below base w v1 := HB.trans (hb.mono (Nat.le_trans hbs HB.size))
        have hW1 := Lib.hid (hW.out.up hb)
        clear hb' hb cp cq Kp Kq HCk HB hW
        go_wp2_with fail
        go_roundg (h - i)
        case measure => have := hr.out; omega
        case rel => exact ⟨i, h, rfl, by go_num, by omega, Lib.hid rfl, HB1, hW1⟩
    · obtain ⟨i1, hi1⟩ : ∃ i1 : Int, (i : Int) - 1 = i1 := ⟨_, rfl⟩
      have x0 : IntKind.i64.wrap ((i : Int) - 1) = i1 := by rw [hi1, IntWalk.i64_in _ (by omega)]
      go_wp2_with fail
      go_loopg [13] (i - a) (fun g1 u wr => ∃ (k : Nat) (D2 : List Nat), u = .int .i64 (k : Int) ∧ (a ≤ k ∧ (k < i ∨ k = a)) ∧ Hid (g1 = i - k) ∧ Hid (D2.Perm D) ∧ Hid (PmW base g cap n wr D2) ∧ Below base w wr)
      case atStart => exact ⟨a, D, rfl, by omega, Lib.hid rfl, Lib.hid (List.Perm.refl _), hW, HB⟩
      case round =>
        clear HB hW
        obtain ⟨k, D2, rfl, hkr, hr, hP, hW, HB⟩ := hrel
        by_cases hlt2 : k + 1 < i
        · have g6 : decide ((k : Int) < (i1 : Int)) = true := decide_eq_true (by omega)
          obtain ⟨k2, hk2⟩ : ∃ k2, k + 1 = k2 := ⟨_, rfl⟩
          have x1 : IntKind.i64.wrap ((k : Int) + 1) = (k2 : Int) := by rw [IntWalk.i64_in _ (by omega)]; omega
          have x3 : k < n := by omega
          have x4 : k2 < n := by omega
          have x5 : ¬ k = k2 := by omega
          have x6 : ¬ k2 = k := by omega
          have hpl : Hid (k < D2.length) := Lib.hid (by rw [hW.out.len]; exact x3)
          have hql : Hid (k2 < D2.length) := Lib.hid (by rw [hW.out.len]; exact x4)
          obtain ⟨c1, f1⟩ := hW.out.cell hpl.out
          obtain ⟨c2, f2⟩ := hW.out.cell hql.out
          obtain ⟨s1, s2⟩ := hW.out.swap hpl.out hql.out
          obtain ⟨y, hy⟩ : ∃ y, D2[k]'hpl.out = y := ⟨_, rfl⟩
          obtain ⟨z, hz⟩ : ∃ z, D2[k2]'hql.out = z := ⟨_, rfl⟩
          replace c1 : wr.cell? ⟨g, k, none⟩ = some (.int .i64 (y : Int)) := by rw [← hy]; exact c1
          replace c2 : wr.cell? ⟨g, k2, none⟩ = some (.int .i64 (z : Int)) := by rw [← hz]; exact c2
          replace s1 : PmW base g cap n ((wr.setCell ⟨g, k, none⟩ (.int .i64 (z : Int))).setCell ⟨g, k2, none⟩ (.int .i64 (y : Int))) ((D2.set k z).set k2 y) := by rw [← hy, ← hz]; exact s1
          replace s2 : Hid (((D2.set k z).set k2 y).Perm D) := Lib.hid (by rw [← hy, ← hz]; exact s2.trans hP.out)
          have HB3 : Below base w ((wr.setCell ⟨g, k, none⟩ (.int .i64 (z : Int))).setCell ⟨g, k2, none⟩ (.int .i64 (y : Int))).drew := below_drew ((HB.setCell (p := ⟨g, k, none⟩) hg (.int .i64 (z : Int))).setCell (p := ⟨g, k2, none⟩) hg (.int .i64 (y : Int)))
          have s3 := Lib.hid (s1.up (drew_bel _))
          have x7 : (0 : Int) ≤ (k : Int) := by omega
          clear hpl hql hy hz hW hP s1
          go_upto_region 11 with fail
          go_region_law (first | fail)
          all_goals
            go_wp2_with fail
            go_roundg (i - k2)
            case measure => have := hr.out; omega
            case rel => exact ⟨k2, _, by go_num, by omega, Lib.hid rfl, s2, s3, HB3⟩
        · have g6 : decide ((k : Int) < (i1 : Int)) = false := decide_eq_false (by omega)
          go_wp2_with fail
          exact bodyPost_ret (v := .tuple #[]) (by simp [results, Tryd.results83, go_sem]) rfl ⟨rfl, D2, hP.out, hW.out, HB⟩
set_option maxRecDepth 100000 in
set_option maxHeartbeats 1000000 in
theorem symB_any (f : Nat → Int) (X base g cap n : Nat) (w0 : World) (hn : n ≤ 1000000) (hbs0 : base ≤ w0.heap.size) (HC : Hid (∀ i k, i < n → k < n → ∀ W, Below base w0 W → Calls Tryd.prog 48 #[.int .i64 (i : Int), .int .i64 (k : Int), .pointer (some ⟨X, 0, none⟩)] W fun e w' => e = .returned (.int .i64 (f k - f i)) ∧ Below W.heap.size W w')) (a m b : Nat) (D : List Nat) (w : World) (h1 : a < m) (h2 : m < b) (h3 : b ≤ n) (hDn : ∀ y ∈ D, y < n) (hw : Below base w0 w) (hP0 : PmW base g cap n w D) (hs : m - a ≠ 1) (hs2 : b - m = 1) :
    Calls Tryd.prog 83 #[.slice (some ⟨g, 0, none⟩) n cap, .int .i64 (a : Int), .int .i64 (m : Int), .int .i64 (b : Int), .func (.func 48) #[] #[.pointer (some ⟨X, 0, none⟩)]] w fun e w' => e = .returned (.tuple #[]) ∧ PmR base g cap n D w w' := by
  have hbs := Nat.le_trans hbs0 hw.size
  have hg := hP0.own
  have h0 := Lib.hid hP0
  replace hDn := Lib.hid hDn
  clear hP0
  obtain ⟨d1, hd1⟩ : ∃ d1, m - a = d1 := ⟨_, rfl⟩
  have y1 : IntKind.i64.wrap ((m : Int) - (a : Int)) = (d1 : Int) := by rw [IntWalk.i64_in _ (by omega)]; omega
  obtain ⟨d2, hd2⟩ : ∃ d2, b - m = d2 := ⟨_, rfl⟩
  have y2 : IntKind.i64.wrap ((b : Int) - (m : Int)) = (d2 : Int) := by rw [IntWalk.i64_in _ (by omega)]; omega
  have yc : ((d1 : Int) == 1) = false := by simp; omega
  have yd : ((d2 : Int) == 1) = true := by simp; omega
  go_enter Tryd.func83, Tryd.ntmps83
  go_wp2_with fail
  go_loopg [14, 15] (m - a) (fun g1 u v wr => ∃ (i j : Nat), u = .int .i64 (i : Int) ∧ v = .int .i64 (j : Int) ∧ (a ≤ i ∧ i ≤ j ∧ j ≤ m) ∧ Hid (g1 = j - i) ∧ Below base w wr ∧ Hid (PmW base g cap n wr D))
  case atStart => exact ⟨a, m, rfl, rfl, by omega, Lib.hid rfl, Below.refl _ _, h0⟩
  case round =>
    obtain ⟨i, j, rfl, rfl, hij, hr, HB, hW⟩ := hrel
    by_cases hlt : i < j
    · obtain ⟨S, hS⟩ : ∃ S, i + j = S := ⟨_, rfl⟩
      obtain ⟨h, hh⟩ : ∃ h, S / 2 = h := ⟨_, rfl⟩
      have z1 : IntKind.i64.wrap ((i : Int) + (j : Int)) = (S : Int) := by rw [IntWalk.i64_in _ (by omega)]; omega
      have z2 : IntKind.u64.wrap (S : Int) = (S : Int) := IntWalk.u64_in _ (by omega)
      have z3 : (S : Int) / 2 = (h : Int) := by omega
      have z4 : IntKind.u64.wrap (h : Int) = (h : Int) := IntWalk.u64_in _ (by omega)
      have z5 : IntKind.i64.wrap (h : Int) = (h : Int) := IntWalk.i64_in _ (by omega)
      have x8 : IntKind.i64.wrap ((h : Int) + 1) = ((h + 1 : Nat) : Int) := by rw [IntWalk.i64_in _ (by omega)]; omega
      have x9 : h < n := by omega
      have lp : Hid (m < D.length) := Lib.hid (by rw [hW.out.len]; omega)
      obtain ⟨cp, -⟩ := hW.out.cell lp.out
      have hyp := hDn.out _ (List.getElem_mem lp.out)
      obtain ⟨yp, ep⟩ : ∃ y, D[m]'lp.out = y := ⟨_, rfl⟩
      replace cp : wr.cell? ⟨g, m, none⟩ = some (.int .i64 (yp : Int)) := by rw [← ep]; exact cp
      replace hyp : yp < n := by rw [← ep]; exact hyp
      have Kp := cell_regrown cp
      have lq : Hid (h < D.length) := Lib.hid (by rw [hW.out.len]; omega)
      obtain ⟨cq, -⟩ := hW.out.cell lq.out
      have hyq := hDn.out _ (List.getElem_mem lq.out)
      obtain ⟨yq, eq⟩ : ∃ y, D[h]'lq.out = y := ⟨_, rfl⟩
      replace cq : wr.cell? ⟨g, h, none⟩ = some (.int .i64 (yq : Int)) := by rw [← eq]; exact cq
      replace hyq : yq < n := by rw [← eq]; exact hyq
      have Kq := cell_regrown cq
      have HCk := Lib.hid (fun (W : World) (hb : Below wr.heap.size wr W) => HC.out yp yq hyp hyq W (hw.trans (HB.trans (hb.mono (Nat.le_trans hbs HB.size)))))
      by_cases q9 : f yq - f yp < 0
      · have g5 : decide (f yq - f yp < 0) = true := decide_eq_true (by omega)
        go_upto_region 17 with fail
        refine wp_region_quiet_below (by kernel_rfl) (by kernel_rfl) ?_
        repeat (go_big_quiet_step ((first | with_reducible exact regrown_call_at HCk.out)))
        refine wpQuiet_nil ?_
        intro v1 hb'
        have hb := below_of_regrown hb'
        have HB1 : Below base w v1 := HB.trans (hb.mono (Nat.le_trans hbs HB.size))
        have hW1 := Lib.hid (hW.out.up hb)
        clear hb' hb cp cq Kp Kq HCk HB hW
        go_wp2_with fail
        go_roundg (h - i)
        case measure => have := hr.out; omega
        case rel => exact ⟨i, h, rfl, by go_num, by omega, Lib.hid rfl, HB1, hW1⟩
      · have g5 : decide (f yq - f yp < 0) = false := decide_eq_false (by omega)
        go_upto_region 17 with fail
        refine wp_region_quiet_below (by kernel_rfl) (by kernel_rfl) ?_
        repeat (go_big_quiet_step ((first | with_reducible exact regrown_call_at HCk.out)))
        refine wpQuiet_nil ?_
        intro v1 hb'
        have hb := below_of_regrown hb'
        have HB1 : Below base w v1 := HB.trans (hb.mono (Nat.le_trans hbs HB.size))
        have hW1 := Lib.hid (hW.out.up hb)
        clear hb' hb cp cq Kp Kq HCk HB hW
        go_wp2_with fail
        go_roundg (j - (h + 1))
        case measure => have := hr.out; omega
        case rel => exact ⟨h + 1, j, by go_num, rfl, by omega, Lib.hid rfl, HB1, hW1⟩
    · go_wp2_with fail
      go_loopg [17] (m - i) (fun g1 u wr => ∃ (k : Nat) (D2 : List Nat), u = .int .i64 (k : Int) ∧ (k ≤ m ∧ (i ≤ k)) ∧ Hid (g1 = k - i) ∧ Hid (D2.Perm D) ∧ Hid (PmW base g cap n wr D2) ∧ Below base w wr)
      case atStart => exact ⟨m, D, rfl, by omega, Lib.hid rfl, Lib.hid (List.Perm.refl _), hW, HB⟩
      case round =>
        clear HB hW
        obtain ⟨k, D2, rfl, hkr, hr, hP, hW, HB⟩ := hrel
        by_cases hlt2 : i < k
        · have g6 : decide ((i : Int) < (k : Int)) = true := decide_eq_true (by omega)
          obtain ⟨k2, hk2⟩ : ∃ k2, k - 1 = k2 := ⟨_, rfl⟩
          have x1 : IntKind.i64.wrap ((k : Int) - 1) = (k2 : Int) := by rw [IntWalk.i64_in _ (by omega)]; omega
          have x3 : k < n := by omega
          have x4 : k2 < n := by omega
          have x5 : ¬ k = k2 := by omega
          have x6 : ¬ k2 = k := by omega
          have hpl : Hid (k < D2.length) := Lib.hid (by rw [hW.out.len]; exact x3)
          have hql : Hid (k2 < D2.length) := Lib.hid (by rw [hW.out.len]; exact x4)
          obtain ⟨c1, f1⟩ := hW.out.cell hpl.out
          obtain ⟨c2, f2⟩ := hW.out.cell hql.out
          obtain ⟨s1, s2⟩ := hW.out.swap hpl.out hql.out
          obtain ⟨y, hy⟩ : ∃ y, D2[k]'hpl.out = y := ⟨_, rfl⟩
          obtain ⟨z, hz⟩ : ∃ z, D2[k2]'hql.out = z := ⟨_, rfl⟩
          replace c1 : wr.cell? ⟨g, k, none⟩ = some (.int .i64 (y : Int)) := by rw [← hy]; exact c1
          replace c2 : wr.cell? ⟨g, k2, none⟩ = some (.int .i64 (z : Int)) := by rw [← hz]; exact c2
          replace s1 : PmW base g cap n ((wr.setCell ⟨g, k, none⟩ (.int .i64 (z : Int))).setCell ⟨g, k2, none⟩ (.int .i64 (y : Int))) ((D2.set k z).set k2 y) := by rw [← hy, ← hz]; exact s1
          replace s2 : Hid (((D2.set k z).set k2 y).Perm D) := Lib.hid (by rw [← hy, ← hz]; exact s2.trans hP.out)
          have HB3 : Below base w ((wr.setCell ⟨g, k, none⟩ (.int .i64 (z : Int))).setCell ⟨g, k2, none⟩ (.int .i64 (y : Int))).drew := below_drew ((HB.setCell (p := ⟨g, k, none⟩) hg (.int .i64 (z : Int))).setCell (p := ⟨g, k2, none⟩) hg (.int .i64 (y : Int)))
          have s3 := Lib.hid (s1.up (drew_bel _))
          have x7 : (0 : Int) ≤ (k : Int) := by omega
          clear hpl hql hy hz hW hP s1
          go_upto_region 23 with fail
          go_region_law (first | fail)
          all_goals
            go_wp2_with fail
            go_roundg (k2 - i)
            case measure => have := hr.out; omega
            case rel => exact ⟨k2, _, by go_num, by omega, Lib.hid rfl, s2, s3, HB3⟩
        · have g6 : decide ((i : Int) < (k : Int)) = false := decide_eq_false (by omega)
          go_wp2_with fail
          exact bodyPost_ret (v := .tuple #[]) (by simp [results, Tryd.results83, go_sem]) rfl ⟨rfl, D2, hP.out, hW.out, HB⟩
end Go.Proofs.YtjlkbmaigcgnbaaDoor
