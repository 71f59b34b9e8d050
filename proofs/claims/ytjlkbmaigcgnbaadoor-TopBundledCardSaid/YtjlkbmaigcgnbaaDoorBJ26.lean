/- slices: the stable sort only moves elements. -/
import Derived.Test.YtjlkbmaigcgnbaaDoorBJ25
set_option linter.unusedVariables false
namespace Go.Proofs.YtjlkbmaigcgnbaaDoor
open Go.ChangeShapes Go.WideShapes Go.ChangeAt Go.RowKit
set_option maxRecDepth 100000 in
set_option maxHeartbeats 2000000 in
theorem insP_any (f : Nat → Int) (X base g cap n : Nat) (w0 : World) (hn : n ≤ 1000000) (hbs0 : base ≤ w0.heap.size) (HC : Hid (∀ i k, i < n → k < n → ∀ W, Below base w0 W → Calls Tryd.prog 48 #[.int .i64 (i : Int), .int .i64 (k : Int), .pointer (some ⟨X, 0, none⟩)] W fun e w' => e = .returned (.int .i64 (f k - f i)) ∧ Below W.heap.size W w')) (a b : Nat) (D : List Nat) (w : World) (h2 : a ≤ b) (h3 : b ≤ n) (hDn : ∀ y ∈ D, y < n) (hw : Below base w0 w) (hP0 : PmW base g cap n w D) :
    Calls Tryd.prog 82 #[.slice (some ⟨g, 0, none⟩) n cap, .int .i64 (a : Int), .int .i64 (b : Int), .func (.func 48) #[] #[.pointer (some ⟨X, 0, none⟩)]] w fun e w' => e = .returned (.tuple #[]) ∧ PmR base g cap n D w w' := by
  have hbs := Nat.le_trans hbs0 hw.size
  have hg := hP0.own
  have h0 := Lib.hid hP0
  have hcl : Hid (∀ D3 : List Nat, D3.Perm D → ∀ y ∈ D3, y < n) := Lib.hid fun D3 h3 y hy => hDn y (h3.mem_iff.1 hy)
  clear hP0 hDn
  obtain ⟨a1, ha1⟩ : ∃ a1, a + 1 = a1 := ⟨_, rfl⟩
  have x1 : IntKind.i64.wrap ((a : Int) + 1) = (a1 : Int) := by rw [IntWalk.i64_in _ (by omega)]; omega
  go_enter Tryd.func82, Tryd.ntmps82
  go_wp2_with fail
  go_loopg [8] (b + 1 - a1) (fun g1 i wr => ∃ (k : Nat) (D2 : List Nat), a + 1 ≤ k ∧ k ≤ b + 1 ∧ i = .int .i64 (k : Int) ∧ Hid (g1 = b + 1 - k) ∧ Hid (D2.Perm D) ∧ Hid (PmW base g cap n wr D2) ∧ Below base w wr)
  case atStart => exact ⟨a1, D, by omega, by omega, by first | rfl | go_num | (rw [x1]; done), Lib.hid rfl, Lib.hid (List.Perm.refl _), h0, Below.refl _ _⟩
  case round =>
    clear h0 x1
    obtain ⟨k, D2, hk1, hk, rfl, hr, hP, hW, HB⟩ := hrel
    by_cases hlt : k < b
    · have g0 : decide ((k : Int) < (b : Int)) = true := decide_eq_true (by omega)
      go_wp2_with fail
      go_loopg [9] k (fun g1 i wq => ∃ (j : Nat) (D3 : List Nat), a ≤ j ∧ j ≤ k ∧ i = .int .i64 (j : Int) ∧ Hid (g1 = j) ∧ Hid (D3.Perm D) ∧ Hid (PmW base g cap n wq D3) ∧ Below base w wq)
      case atStart => exact ⟨k, D2, by omega, Nat.le_refl _, rfl, Lib.hid rfl, hP, hW, HB⟩
      case round =>
        clear HB hW hP D2 g0
        obtain ⟨j, D2, hj1, hj, rfl, hr2, hP, hW, HB⟩ := hrel
        by_cases hj0 : a < j
        · obtain ⟨j2, hj2⟩ : ∃ j2, j - 1 = j2 := ⟨_, rfl⟩
          have u1 : IntKind.i64.wrap ((j : Int) - 1) = (j2 : Int) := by rw [IntWalk.i64_in _ (by omega)]; omega
          have u2 : decide ((a : Int) < (j : Int)) = true := decide_eq_true (by omega)
          have x3 : j < n := by omega
          have x4 : j2 < n := by omega
          have x5 : ¬ j = j2 := by omega
          have x6 : ¬ j2 = j := by omega
          have hpl : Hid (j < D2.length) := Lib.hid (by rw [hW.out.len]; exact x3)
          have hql : Hid (j2 < D2.length) := Lib.hid (by rw [hW.out.len]; exact x4)
          obtain ⟨c1, f1⟩ := hW.out.cell hpl.out
          obtain ⟨c2, f2⟩ := hW.out.cell hql.out
          have hyn := hcl.out D2 hP.out _ (List.getElem_mem hpl.out)
          have hzn := hcl.out D2 hP.out _ (List.getElem_mem hql.out)
          obtain ⟨y, hy⟩ : ∃ y, D2[j]'hpl.out = y := ⟨_, rfl⟩
          obtain ⟨z, hz⟩ : ∃ z, D2[j2]'hql.out = z := ⟨_, rfl⟩
          rw [hy] at hyn
          rw [hz] at hzn
          replace c1 : wr.cell? ⟨g, j, none⟩ = some (.int .i64 (y : Int)) := by rw [← hy]; exact c1
          replace c2 : wr.cell? ⟨g, j2, none⟩ = some (.int .i64 (z : Int)) := by rw [← hz]; exact c2
          have HCk := Lib.hid (fun (W : World) (hb : Below wr.heap.size wr W) => HC.out y z hyn hzn W (hw.trans (HB.trans (hb.mono (Nat.le_trans hbs HB.size)))))
          have K0 := cell_regrown c1
          have K1 := cell_regrown c2
          have hjn : Hid (j2 + 1 = j) := Lib.hid (by omega)
          by_cases q : f z - f y < 0
          · have g5 : decide (f z - f y < 0) = true := decide_eq_true q
            clear q
            go_upto_region 4 with fail
            refine wp_region_quiet_below (by kernel_rfl) (by kernel_rfl) ?_
            repeat (go_big_quiet_step ((first | with_reducible exact regrown_call_at HCk.out)))
            refine wpQuiet_nil ?_
            intro v1 hb'
            have hb := below_of_regrown hb'
            have HB1 : Below base w v1 := HB.trans (hb.mono (Nat.le_trans hbs HB.size))
            have hW1 := Lib.hid (hW.out.up hb)
            have d1 := cell_up hb c1
            have d2 := cell_up hb c2
            have f3 := (hW1.out.cell hpl.out).2
            have f4 := (hW1.out.cell hql.out).2
            obtain ⟨s1, s2⟩ := hW1.out.swap hpl.out hql.out
            replace s1 : PmW base g cap n ((v1.setCell ⟨g, j, none⟩ (.int .i64 (z : Int))).setCell ⟨g, j2, none⟩ (.int .i64 (y : Int))) ((D2.set j z).set j2 y) := by rw [← hy, ← hz]; exact s1
            replace s2 : Hid (((D2.set j z).set j2 y).Perm D) := Lib.hid (by rw [← hy, ← hz]; exact s2.trans hP.out)
            have HB3 : Below base w ((v1.setCell ⟨g, j, none⟩ (.int .i64 (z : Int))).setCell ⟨g, j2, none⟩ (.int .i64 (y : Int))).drew := below_drew ((HB1.setCell (p := ⟨g, j, none⟩) hg (.int .i64 (z : Int))).setCell (p := ⟨g, j2, none⟩) hg (.int .i64 (y : Int)))
            have s3 := Lib.hid (s1.up (drew_bel _))
            clear hb' hb K0 K1 c1 c2 f1 f2 HB hW hP hy hz hpl hql s1 g5 HCk hyn hzn hW1 HB1
            go_upto_region 6 with fail
            go_region_law (first | fail)
            all_goals
              go_wp2_with fail
              go_roundg j2
              case measure => have := hr2.out; have := hjn.out; omega
              case rel => exact ⟨j2, _, by omega, by omega, by go_num, Lib.hid rfl, s2, s3, HB3⟩
          · have g5 : decide (f z - f y < 0) = false := decide_eq_false q
            clear q
            go_upto_region 4 with fail
            refine wp_region_quiet_below (by kernel_rfl) (by kernel_rfl) ?_
            repeat (go_big_quiet_step ((first | with_reducible exact regrown_call_at HCk.out)))
            refine wpQuiet_nil ?_
            intro v1 hb'
            have hb := below_of_regrown hb'
            have HB1 : Below base w v1 := HB.trans (hb.mono (Nat.le_trans hbs HB.size))
            have hW1 := Lib.hid (hW.out.up hb)
            clear hb' hb K0 K1 c1 c2 f1 f2 HB hW g5 HCk hyn hzn hy hz hpl hql
            go_wp2_with fail
            go_roundg (b + 1 - (k + 1))
            case measure => have := hr.out; omega
            case rel => exact ⟨k + 1, D2, by omega, by omega, by go_num, Lib.hid rfl, hP, hW1, HB1⟩
        · have u2 : decide ((a : Int) < (j : Int)) = false := decide_eq_false (by omega)
          go_upto_region 4 with fail
          refine wp_region_quiet_below (by kernel_rfl) (by kernel_rfl) ?_
          repeat (go_big_quiet_step (fail))
          refine wpQuiet_nil ?_
          intro v1 hb'
          have hb := below_of_regrown hb'
          have HB1 : Below base w v1 := HB.trans (hb.mono (Nat.le_trans hbs HB.size))
          have hW1 := Lib.hid (hW.out.up hb)
          clear hb' hb HB hW
          go_wp2_with fail
          go_roundg (b + 1 - (k + 1))
          case measure => have := hr.out; omega
          case rel => exact ⟨k + 1, D2, by omega, by omega, by go_num, Lib.hid rfl, hP, hW1, HB1⟩
    · have g0 : decide ((k : Int) < (b : Int)) = false := decide_eq_false (by omega)
      go_wp2_with fail
      go_end0
      exact ⟨rfl, D2, hP.out, hW.out, HB⟩
set_option maxRecDepth 100000 in
set_option maxHeartbeats 2000000 in
theorem stableP_any (f : Nat → Int) (X base g cap n : Nat) (w0 : World) (hn : n ≤ 1000) (hbs0 : base ≤ w0.heap.size) (HC : Hid (∀ i k, i < n → k < n → ∀ W, Below base w0 W → Calls Tryd.prog 48 #[.int .i64 (i : Int), .int .i64 (k : Int), .pointer (some ⟨X, 0, none⟩)] W fun e w' => e = .returned (.int .i64 (f k - f i)) ∧ Below W.heap.size W w')) (D : List Nat) (w : World) (hDn : ∀ y ∈ D, y < n) (hw : Below base w0 w) (hP0 : PmW base g cap n w D) :
    Calls Tryd.prog 67 #[.slice (some ⟨g, 0, none⟩) n cap, .int .i64 (n : Int), .func (.func 48) #[] #[.pointer (some ⟨X, 0, none⟩)]] w fun e w' => e = .returned (.tuple #[]) ∧ PmR base g cap n D w w' := by
  have HI := Lib.hid (fun (a b : Nat) (D2 : List Nat) (W : World) (h2 : a ≤ b) (h3 : b ≤ n) (hD : D2.Perm D) (hW : Below base w W) (hP : PmW base g cap n W D2) => insP_any f X base g cap n w0 (by omega) hbs0 HC a b D2 W h2 h3 (fun y hy => hDn y (hD.mem_iff.1 hy)) (hw.trans hW) hP)
  have HM := Lib.hid (fun (a m b : Nat) (D2 : List Nat) (W : World) (h1 : a < m) (h2 : m < b) (h3 : b ≤ n) (hD : D2.Perm D) (hW : Below base w W) (hP : PmW base g cap n W D2) => symM_any f X base g cap n w0 (by omega) hbs0 HC b a m b D2 W (by omega) h1 h2 h3 (fun y hy => hDn y (hD.mem_iff.1 hy)) (hw.trans hW) hP)
  have h0 := Lib.hid hP0
  clear hP0 hDn HC
  go_enter Tryd.func67, Tryd.ntmps67
  go_wp2_with fail
  go_loopg [7, 8] n (fun g1 x i wr => ∃ (a : Nat) (D2 : List Nat), a ≤ n ∧ x = .int .i64 (a : Int) ∧ i = .int .i64 ((a + 20 : Nat) : Int) ∧ Hid (g1 = n - a) ∧ Hid (D2.Perm D) ∧ Hid (PmW base g cap n wr D2) ∧ Below base w wr)
  case atStart => exact ⟨0, D, Nat.zero_le _, rfl, rfl, Lib.hid rfl, Lib.hid (List.Perm.refl _), h0, Below.refl _ _⟩
  case round =>
    clear h0
    obtain ⟨a, D2, ha, rfl, rfl, hr, hP, hW, HB⟩ := hrel
    obtain ⟨a2, ha2⟩ : ∃ a2, a + 20 = a2 := ⟨_, rfl⟩
    rw [ha2]
    obtain ⟨a3, ha3⟩ : ∃ a3, a2 + 20 = a3 := ⟨_, rfl⟩
    have x1 : IntKind.i64.wrap ((a2 : Int) + 20) = (a3 : Int) := by rw [IntWalk.i64_in _ (by omega)]; omega
    by_cases hlt : a2 ≤ n
    · have g0 : decide ((a2 : Int) ≤ (n : Int)) = true := decide_eq_true (by omega)
      have HS := Lib.hid (HI.out a a2 D2 wr (by omega) hlt hP.out HB hW.out)
      have hle : Hid (a < a2) := Lib.hid (by omega)
      replace ha2 := Lib.hid ha2
      replace ha3 := Lib.hid ha3
      clear hW
      go_wp2_with fail
      refine HS.out.mono ?_
      rintro e w1 ⟨rfl, D3, q1, q2, q3⟩
      have hP3 := Lib.hid (q1.trans hP.out)
      have hW3 := Lib.hid q2
      replace HB := HB.trans q3
      clear q1 q2 q3 HS hP
      go_wp2_with fail
      go_roundg (n - a2)
      case measure => have := hr.out; have := hle.out; omega
      case rel => exact ⟨a2, D3, hlt, rfl, by rw [ha3.out], Lib.hid rfl, hP3, hW3, HB⟩
    · have g0 : decide ((a2 : Int) ≤ (n : Int)) = false := decide_eq_false (by omega)
      have HS := Lib.hid (HI.out a n D2 wr ha (Nat.le_refl _) hP.out HB hW.out)
      replace ha2 := Lib.hid ha2
      replace ha3 := Lib.hid ha3
      clear hW x1
      go_wp2_with fail
      refine HS.out.mono ?_
      rintro e w1 ⟨rfl, D3, q1, q2, q3⟩
      have hP3 := Lib.hid (q1.trans hP.out)
      have hW3 := Lib.hid q2
      have HB1 := HB.trans q3
      clear q1 q2 q3 HS hP HB
      go_wp2_with fail
      go_loopg [6] (n - 20) (fun g1 i wr => ∃ (s : Nat) (D2 : List Nat), 1 ≤ s ∧ s ≤ 2000 ∧ i = .int .i64 (s : Int) ∧ Hid (g1 = n - s) ∧ Hid (D2.Perm D) ∧ Hid (PmW base g cap n wr D2) ∧ Below base w wr)
      case atStart => exact ⟨20, D3, by omega, by omega, rfl, Lib.hid rfl, hP3, hW3, HB1⟩
      case round =>
        clear hP3 hW3 HB1
        obtain ⟨s, D4, hs1, hs2, rfl, hr, hP, hW, HB⟩ := hrel
        by_cases hlt2 : s < n
        · have g1 : decide ((s : Int) < (n : Int)) = true := decide_eq_true (by omega)
          obtain ⟨s2, hs⟩ : ∃ s2, 2 * s = s2 := ⟨_, rfl⟩
          have x2 : IntKind.i64.wrap (2 * (s : Int)) = (s2 : Int) := by rw [IntWalk.i64_in _ (by omega)]; omega
          have x3 : IntKind.i64.wrap ((s : Int) * 2) = (s2 : Int) := by rw [IntWalk.i64_in _ (by omega)]; omega
          replace hs := Lib.hid hs
          go_wp2_with fail
          go_loopg [7, 8] n (fun g1 x i wr => ∃ (a : Nat) (D2 : List Nat), a ≤ n ∧ x = .int .i64 (a : Int) ∧ i = .int .i64 ((a + s2 : Nat) : Int) ∧ Hid (g1 = n - a) ∧ Hid (D2.Perm D) ∧ Hid (PmW base g cap n wr D2) ∧ Below base w wr)
          case atStart => exact ⟨0, D4, Nat.zero_le _, rfl, by simp, Lib.hid rfl, hP, hW, HB⟩
          case round =>
            clear hP hW HB
            obtain ⟨a, D5, ha, rfl, rfl, hr5, hP, hW, HB⟩ := hrel
            have hs' := hs.out
            obtain ⟨a2, ha2⟩ : ∃ a2, a + s2 = a2 := ⟨_, rfl⟩
            rw [ha2]
            obtain ⟨a3, ha3⟩ : ∃ a3, a2 + s2 = a3 := ⟨_, rfl⟩
            obtain ⟨am, ham⟩ : ∃ am, a + s = am := ⟨_, rfl⟩
            have y1 : IntKind.i64.wrap ((a2 : Int) + (s2 : Int)) = (a3 : Int) := by rw [IntWalk.i64_in _ (by omega)]; omega
            have y2 : IntKind.i64.wrap ((a : Int) + (s : Int)) = (am : Int) := by rw [IntWalk.i64_in _ (by omega)]; omega
            by_cases hlt5 : a2 ≤ n
            · have g5 : decide ((a2 : Int) ≤ (n : Int)) = true := decide_eq_true (by omega)
              have HS := Lib.hid (HM.out a am a2 D5 wr (by omega) (by omega) hlt5 hP.out HB hW.out)
              have hle : Hid (a < a2) := Lib.hid (by omega)
              replace ha2 := Lib.hid ha2
              replace ha3 := Lib.hid ha3
              replace ham := Lib.hid ham
              clear hW hs'
              go_wp2_with fail
              refine HS.out.mono ?_
              rintro e w1 ⟨rfl, D6, q1, q2, q3⟩
              have hP3 := Lib.hid (q1.trans hP.out)
              have hW3 := Lib.hid q2
              replace HB := HB.trans q3
              clear q1 q2 q3 HS hP
              go_wp2_with fail
              go_roundg (n - a2)
              case measure => have := hr5.out; have := hle.out; omega
              case rel => exact ⟨a2, D6, hlt5, rfl, by rw [ha3.out], Lib.hid rfl, hP3, hW3, HB⟩
            · have g5 : decide ((a2 : Int) ≤ (n : Int)) = false := decide_eq_false (by omega)
              have hmes : Hid (n - s2 < n - s ∧ s2 ≤ 2000 ∧ 1 ≤ s2) := Lib.hid (by omega)
              by_cases hlt6 : am < n
              · have g6 : decide ((am : Int) < (n : Int)) = true := decide_eq_true (by omega)
                have HS := Lib.hid (HM.out a am n D5 wr (by omega) hlt6 (Nat.le_refl _) hP.out HB hW.out)
                replace ha2 := Lib.hid ha2
                replace ha3 := Lib.hid ha3
                replace ham := Lib.hid ham
                clear hW hs'
                go_wp2_with fail
                refine HS.out.mono ?_
                rintro e w1 ⟨rfl, D6, q1, q2, q3⟩
                have hP3 := Lib.hid (q1.trans hP.out)
                have hW3 := Lib.hid q2
                replace HB := HB.trans q3
                clear q1 q2 q3 HS hP
                go_wp2_with fail
                go_roundg (n - s2)
                case measure => have := hr.out; have := hmes.out; omega
                case rel => exact ⟨s2, D6, hmes.out.2.2, hmes.out.2.1, rfl, Lib.hid rfl, hP3, hW3, HB⟩
              · have g6 : decide ((am : Int) < (n : Int)) = false := decide_eq_false (by omega)
                replace ha2 := Lib.hid ha2
                replace ha3 := Lib.hid ha3
                replace ham := Lib.hid ham
                clear hs'
                go_wp2_with fail
                go_roundg (n - s2)
                case measure => have := hr.out; have := hmes.out; omega
                case rel => exact ⟨s2, D5, hmes.out.2.2, hmes.out.2.1, rfl, Lib.hid rfl, hP, hW, HB⟩
        · have g1 : decide ((s : Int) < (n : Int)) = false := decide_eq_false (by omega)
          go_wp2_with fail
          go_end0
          exact ⟨rfl, D4, hP.out, hW.out, HB⟩
end Go.Proofs.YtjlkbmaigcgnbaaDoor
