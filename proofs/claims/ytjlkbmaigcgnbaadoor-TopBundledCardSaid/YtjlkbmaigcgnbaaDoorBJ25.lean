/- slices.symMergeCmpFunc only moves elements. -/
import Derived.Test.YtjlkbmaigcgnbaaDoorBJ24
set_option linter.unusedVariables false
namespace Go.Proofs.YtjlkbmaigcgnbaaDoor
open Go.ChangeShapes Go.WideShapes Go.ChangeAt Go.RowKit
set_option maxRecDepth 100000 in
set_option maxHeartbeats 4000000 in
theorem symC_any (f : Nat → Int) (X base g cap n : Nat) (w0 : World) (hn : n ≤ 1000000) (hbs0 : base ≤ w0.heap.size) (HC : Hid (∀ i k, i < n → k < n → ∀ W, Below base w0 W → Calls Tryd.prog 48 #[.int .i64 (i : Int), .int .i64 (k : Int), .pointer (some ⟨X, 0, none⟩)] W fun e w' => e = .returned (.int .i64 (f k - f i)) ∧ Below W.heap.size W w')) (a m b : Nat) (D : List Nat) (w : World) (h1 : a < m) (h2 : m < b) (h3 : b ≤ n) (hDn : ∀ y ∈ D, y < n) (hw : Below base w0 w) (hP0 : PmW base g cap n w D) (s : Nat) (hsz : b - a ≤ s + 1) (HIH : Hid (∀ (a m b : Nat) (D : List Nat) (w : World), b - a ≤ s → a < m → m < b → b ≤ n → (∀ y ∈ D, y < n) → Below base w0 w → PmW base g cap n w D → Calls Tryd.prog 83 #[.slice (some ⟨g, 0, none⟩) n cap, .int .i64 (a : Int), .int .i64 (m : Int), .int .i64 (b : Int), .func (.func 48) #[] #[.pointer (some ⟨X, 0, none⟩)]] w fun e w' => e = .returned (.tuple #[]) ∧ PmR base g cap n D w w')) (hs : m - a ≠ 1) (hs2 : b - m ≠ 1) :
    Calls Tryd.prog 83 #[.slice (some ⟨g, 0, none⟩) n cap, .int .i64 (a : Int), .int .i64 (m : Int), .int .i64 (b : Int), .func (.func 48) #[] #[.pointer (some ⟨X, 0, none⟩)]] w fun e w' => e = .returned (.tuple #[]) ∧ PmR base g cap n D w w' := by
  have hbs := Nat.le_trans hbs0 hw.size
  have hg := hP0.own
  have h0 := Lib.hid hP0
  replace hDn := Lib.hid hDn
  clear hP0
  obtain ⟨d1, hd1⟩ : ∃ d1, m - a = d1 := ⟨_, rfl⟩
  have y1 : IntKind.i64.wrap ((m : Int) - (a : Int)) = (d1 : Int) := by rw [IntWalk.i64_in _ (by omega)]; omega
  obtain ⟨d2, hd2⟩ : ∃ d2, b - m = d2 := ⟨_, rfl⟩
  have y2 : IntKind.i64.wrap ((b : Int) - (m : Int)) = (d2 : Int) := by rw [IntWalk.i64_in _ (by omega)]; omega
  have yc : ((d1 : Int) == 1) = false := by simp; omega
  have yd : ((d2 : Int) == 1) = false := by simp; omega
  obtain ⟨S, hS⟩ : ∃ S, a + b = S := ⟨_, rfl⟩
  obtain ⟨md, hmd⟩ : ∃ md, S / 2 = md := ⟨_, rfl⟩
  have z1 : IntKind.i64.wrap ((a : Int) + (b : Int)) = (S : Int) := by rw [IntWalk.i64_in _ (by omega)]; omega
  have z2 : IntKind.u64.wrap (S : Int) = (S : Int) := IntWalk.u64_in _ (by omega)
  have z3 : (S : Int) / 2 = (md : Int) := by omega
  have z4 : IntKind.u64.wrap (md : Int) = (md : Int) := IntWalk.u64_in _ (by omega)
  have z5 : IntKind.i64.wrap (md : Int) = (md : Int) := IntWalk.i64_in _ (by omega)
  obtain ⟨nn, hnn⟩ : ∃ nn, md + m = nn := ⟨_, rfl⟩
  have y3 : IntKind.i64.wrap ((md : Int) + (m : Int)) = (nn : Int) := by rw [IntWalk.i64_in _ (by omega)]; omega
  have hmd2 : a < md ∧ md < b := by omega
  go_enter Tryd.func83, Tryd.ntmps83
  go_upto_if 140 with fail
  go_cut [20, 21] from 140 to 146 (fun v u wc => ∃ i j : Nat, v = .int .i64 (i : Int) ∧ u = .int .i64 (j : Int) ∧ (a ≤ i ∧ i ≤ j ∧ j ≤ m ∧ j ≤ md ∧ md + m ≤ b + i) ∧ w = wc)
  case first =>
    by_cases q : md < m
    · have g1 : decide ((md : Int) < (m : Int)) = true := decide_eq_true (by omega)
      obtain ⟨s0, hs0⟩ : ∃ s0, nn - b = s0 := ⟨_, rfl⟩
      have y4 : IntKind.i64.wrap ((nn : Int) - (b : Int)) = (s0 : Int) := by rw [IntWalk.i64_in _ (by omega)]; omega
      go_wp2_with fail
      go_meet
      exact ⟨s0, md, rfl, rfl, by omega, rfl⟩
    · have g1 : decide ((md : Int) < (m : Int)) = false := decide_eq_false (by omega)
      go_wp2_with fail
      go_meet
      exact ⟨a, m, rfl, rfl, by omega, rfl⟩
  case rest =>
    obtain ⟨i0, j0, rfl, rfl, hb0, rfl⟩ := hcut
    obtain ⟨p, hp⟩ : ∃ p, nn - 1 = p := ⟨_, rfl⟩
    have y5 : IntKind.i64.wrap ((nn : Int) - 1) = (p : Int) := by rw [IntWalk.i64_in _ (by omega)]; omega
    clear z1 z2 z3 z4 z5
    go_wp2_with fail
    go_loopg [20, 21] (j0 - i0) (fun g1 u v wr => ∃ (i j : Nat), u = .int .i64 (i : Int) ∧ v = .int .i64 (j : Int) ∧ (a ≤ i ∧ i ≤ j ∧ j ≤ m ∧ j ≤ md ∧ md + m ≤ b + i) ∧ Hid (g1 = j - i) ∧ Below base w wr ∧ Hid (PmW base g cap n wr D))
    case atStart => exact ⟨i0, j0, rfl, rfl, hb0, Lib.hid rfl, Below.refl _ _, h0⟩
    case round =>
      clear hb0
      obtain ⟨i, j, rfl, rfl, hij, hr, HB, hW⟩ := hrel
      by_cases hlt : i < j
      · obtain ⟨S, hS⟩ : ∃ S, i + j = S := ⟨_, rfl⟩
        obtain ⟨h, hh⟩ : ∃ h, S / 2 = h := ⟨_, rfl⟩
        have z1 : IntKind.i64.wrap ((i : Int) + (j : Int)) = (S : Int) := by rw [IntWalk.i64_in _ (by omega)]; omega
        have z2 : IntKind.u64.wrap (S : Int) = (S : Int) := IntWalk.u64_in _ (by omega)
        have z3 : (S : Int) / 2 = (h : Int) := by omega
        have z4 : IntKind.u64.wrap (h : Int) = (h : Int) := IntWalk.u64_in _ (by omega)
        have z5 : IntKind.i64.wrap (h : Int) = (h : Int) := IntWalk.i64_in _ (by omega)
        have x8 : IntKind.i64.wrap ((h : Int) + 1) = ((h + 1 : Nat) : Int) := by rw [IntWalk.i64_in _ (by omega)]; omega
        obtain ⟨pc, hpc⟩ : ∃ pc, p - h = pc := ⟨_, rfl⟩
        have x7 : IntKind.i64.wrap ((p : Int) - (h : Int)) = (pc : Int) := by rw [IntWalk.i64_in _ (by omega)]; omega
        have x9 : h < n := by omega
        have x10 : pc < n := by omega
        have lp : Hid (pc < D.length) := Lib.hid (by rw [hW.out.len]; omega)
        obtain ⟨cp, -⟩ := hW.out.cell lp.out
        have hyp := hDn.out _ (List.getElem_mem lp.out)
        obtain ⟨yp, ep⟩ : ∃ y, D[pc]'lp.out = y := ⟨_, rfl⟩
        replace cp : wr.cell? ⟨g, pc, none⟩ = some (.int .i64 (yp : Int)) := by rw [← ep]; exact cp
        replace hyp : yp < n := by rw [← ep]; exact hyp
        have Kp := cell_regrown cp
        have lq : Hid (h < D.length) := Lib.hid (by rw [hW.out.len]; omega)
        obtain ⟨cq, -⟩ := hW.out.cell lq.out
        have hyq := hDn.out _ (List.getElem_mem lq.out)
        obtain ⟨yq, eq⟩ : ∃ y, D[h]'lq.out = y := ⟨_, rfl⟩
        replace cq : wr.cell? ⟨g, h, none⟩ = some (.int .i64 (yq : Int)) := by rw [← eq]; exact cq
        replace hyq : yq < n := by rw [← eq]; exact hyq
        have Kq := cell_regrown cq
        have HCk := Lib.hid (fun (W : World) (hb : Below wr.heap.size wr W) => HC.out yp yq hyp hyq W (hw.trans (HB.trans (hb.mono (Nat.le_trans hbs HB.size)))))
        by_cases q9 : f yq - f yp < 0
        · have g5 : decide (f yq - f yp < 0) = true := decide_eq_true (by omega)
          go_upto_region 35 with fail
          refine wp_region_quiet_below (by kernel_rfl) (by kernel_rfl) ?_
          repeat (go_big_quiet_step ((first | with_reducible exact regrown_call_at HCk.out)))
          refine wpQuiet_nil ?_
          intro v1 hb'
          have hb := below_of_regrown hb'
          have HB1 : Below base w v1 := HB.trans (hb.mono (Nat.le_trans hbs HB.size))
          have hW1 := Lib.hid (hW.out.up hb)
          clear hb' hb cp cq Kp Kq HCk HB hW
          go_wp2_with fail
          go_roundg (h - i)
          case measure => have := hr.out; omega
          case rel => exact ⟨i, h, rfl, by go_num, by omega, Lib.hid rfl, HB1, hW1⟩
        · have g5 : decide (f yq - f yp < 0) = false := decide_eq_false (by omega)
          go_upto_region 35 with fail
          refine wp_region_quiet_below (by kernel_rfl) (by kernel_rfl) ?_
          repeat (go_big_quiet_step ((first | with_reducible exact regrown_call_at HCk.out)))
          refine wpQuiet_nil ?_
          intro v1 hb'
          have hb := below_of_regrown hb'
          have HB1 : Below base w v1 := HB.trans (hb.mono (Nat.le_trans hbs HB.size))
          have hW1 := Lib.hid (hW.out.up hb)
          clear hb' hb cp cq Kp Kq HCk HB hW
          go_wp2_with fail
          go_roundg (j - (h + 1))
          case measure => have := hr.out; omega
          case rel => exact ⟨h + 1, j, by go_num, rfl, by omega, Lib.hid rfl, HB1, hW1⟩
      · obtain ⟨e, he⟩ : ∃ e, nn - i = e := ⟨_, rfl⟩
        have y6 : IntKind.i64.wrap ((nn : Int) - (i : Int)) = (e : Int) := by rw [IntWalk.i64_in _ (by omega)]; omega
        have heb : md + m = e + i := by omega
        have hP : Hid (D.Perm D) := Lib.hid (List.Perm.refl _)
        obtain ⟨D2, hD2⟩ : ∃ D2, D = D2 := ⟨_, rfl⟩
        have hW2 : Hid (PmW base g cap n wr D2) := by rw [← hD2]; exact hW
        have hP2 : Hid (D2.Perm D) := by rw [← hD2]; exact hP
        clear hP hW hD2 he
        have hP := hP2
        have hW := hW2
        clear hP2 hW2
        have hcl : Hid (∀ D3 : List Nat, D3.Perm D → ∀ y ∈ D3, y < n) := Lib.hid fun D3 h3 y hy => hDn.out y (h3.mem_iff.1 hy)
        obtain ⟨bq, hbq⟩ : ∃ bq : Bool, (decide (i < m) && decide (m < e)) = bq := ⟨_, rfl⟩
        go_upto_region 39 with fail
        go_cut [24, 185] from 180 to 185 (fun v u wx => v = .int .i64 (e : Int) ∧ u = .bool bq ∧ wr = wx)
        case first =>
          by_cases q8 : i < m
          · have g6 : decide ((i : Int) < (m : Int)) = true := decide_eq_true (by omega)
            by_cases q9 : m < e
            · have g7 : decide ((m : Int) < (e : Int)) = true := decide_eq_true (by omega)
              have hb9 : Hid (bq = true) := Lib.hid (by rw [← hbq, decide_eq_true q8, decide_eq_true q9]; rfl)
              have hq8 := Lib.hid q8
              have hq9 := Lib.hid q9
              clear hbq q8 q9
              go_wp2_with fail
              go_meet
              exact ⟨rfl, by first | (rw [hb9.out, decide_eq_true hq9.out]; done) | (rw [hb9.out]; done), rfl⟩
            · have g7 : decide ((m : Int) < (e : Int)) = false := decide_eq_false (by omega)
              have hb9 : Hid (bq = false) := Lib.hid (by rw [← hbq, decide_eq_true q8, decide_eq_false q9]; rfl)
              have hq8 := Lib.hid q8
              have hq9 : Hid (¬ (m < e)) := Lib.hid q9
              clear hbq q8 q9
              go_wp2_with fail
              go_meet
              exact ⟨rfl, by first | (rw [hb9.out, decide_eq_false hq9.out]; done) | (rw [hb9.out]; done), rfl⟩
          · have g6 : decide ((i : Int) < (m : Int)) = false := decide_eq_false (by omega)
            have hb9 : Hid (bq = false) := Lib.hid (by rw [← hbq, decide_eq_false q8]; rfl)
            have hq8 : Hid (¬ (i < m)) := Lib.hid q8
            clear hbq q8
            go_wp2_with fail
            go_meet
            exact ⟨rfl, by first | (rw [hb9.out]; done) | (rw [hb9.out, decide_eq_false hq8.out]; done), rfl⟩
        case rest =>
          obtain ⟨rfl, rfl, rfl⟩ := hcut
          go_upto_if 185 with fail
          go_cut [24] from 185 to 191 (fun v wc => v = .int .i64 (e : Int) ∧ ∃ D2, Hid (D2.Perm D) ∧ Hid (PmW base g cap n wc D2) ∧ Below base w wc)
          case first =>
            rcases bq with _ | _
            · go_wp2_with fail
              go_meet
              exact ⟨rfl, D2, hP, hW, HB⟩
            · have q9 : i < m ∧ m < e := by simpa using hbq
              have HS := Lib.hid (rotate_any i m e (.func (.func 48) #[] #[.pointer (some ⟨X, 0, none⟩)]) base g cap n D2 wr hn (Nat.le_trans hbs HB.size) (by omega) (by omega) (by omega) hW.out)
              clear q9 hbq
              go_wp2_with fail
              refine HS.out.mono ?_
              rintro e9 w9 ⟨rfl, D3, t1, t2, t3⟩
              go_wp2_with fail
              go_meet
              exact ⟨rfl, D3, Lib.hid (t1.trans hP.out), Lib.hid t2, HB.trans t3⟩
          case rest =>
            clear hP hW HB D2 hbq bq
            obtain ⟨rfl, D2, hP, hW, HB⟩ := hcut
            obtain ⟨bq, hbq⟩ : ∃ bq : Bool, (decide (a < i) && decide (i < md)) = bq := ⟨_, rfl⟩
            go_upto_region 41 with fail
            go_cut [24, 199] from 194 to 199 (fun v u wx => v = .int .i64 (e : Int) ∧ u = .bool bq ∧ wc = wx)
            case first =>
              by_cases q8 : a < i
              · have g6 : decide ((a : Int) < (i : Int)) = true := decide_eq_true (by omega)
                by_cases q9 : i < md
                · have g7 : decide ((i : Int) < (md : Int)) = true := decide_eq_true (by omega)
                  have hb9 : Hid (bq = true) := Lib.hid (by rw [← hbq, decide_eq_true q8, decide_eq_true q9]; rfl)
                  have hq8 := Lib.hid q8
                  have hq9 := Lib.hid q9
                  clear hbq q8 q9
                  go_wp2_with fail
                  go_meet
                  exact ⟨rfl, by first | (rw [hb9.out, decide_eq_true hq9.out]; done) | (rw [hb9.out]; done), rfl⟩
                · have g7 : decide ((i : Int) < (md : Int)) = false := decide_eq_false (by omega)
                  have hb9 : Hid (bq = false) := Lib.hid (by rw [← hbq, decide_eq_true q8, decide_eq_false q9]; rfl)
                  have hq8 := Lib.hid q8
                  have hq9 : Hid (¬ (i < md)) := Lib.hid q9
                  clear hbq q8 q9
                  go_wp2_with fail
                  go_meet
                  exact ⟨rfl, by first | (rw [hb9.out, decide_eq_false hq9.out]; done) | (rw [hb9.out]; done), rfl⟩
              · have g6 : decide ((a : Int) < (i : Int)) = false := decide_eq_false (by omega)
                have hb9 : Hid (bq = false) := Lib.hid (by rw [← hbq, decide_eq_false q8]; rfl)
                have hq8 : Hid (¬ (a < i)) := Lib.hid q8
                clear hbq q8
                go_wp2_with fail
                go_meet
                exact ⟨rfl, by first | (rw [hb9.out]; done) | (rw [hb9.out, decide_eq_false hq8.out]; done), rfl⟩
            case rest =>
              obtain ⟨rfl, rfl, rfl⟩ := hcut
              go_upto_if 199 with fail
              go_cut [24] from 199 to 205 (fun v wc => v = .int .i64 (e : Int) ∧ ∃ D2, Hid (D2.Perm D) ∧ Hid (PmW base g cap n wc D2) ∧ Below base w wc)
              case first =>
                rcases bq with _ | _
                · go_wp2_with fail
                  go_meet
                  exact ⟨rfl, D2, hP, hW, HB⟩
                · have q9 : a < i ∧ i < md := by simpa using hbq
                  have HS := Lib.hid (HIH.out a i md D2 wc (by omega) (by omega) (by omega) (by omega) (hcl.out D2 hP.out) (hw.trans HB) hW.out)
                  clear q9 hbq
                  go_wp2_with fail
                  refine HS.out.mono ?_
                  rintro e9 w9 ⟨rfl, D3, t1, t2, t3⟩
                  go_wp2_with fail
                  go_meet
                  exact ⟨rfl, D3, Lib.hid (t1.trans hP.out), Lib.hid t2, HB.trans t3⟩
              case rest =>
                clear hP hW HB D2 hbq bq
                obtain ⟨rfl, D2, hP, hW, HB⟩ := hcut
                obtain ⟨bq, hbq⟩ : ∃ bq : Bool, (decide (md < e) && decide (e < b)) = bq := ⟨_, rfl⟩
                go_upto_region 43 with fail
                go_cut [24, 213] from 208 to 213 (fun v u wx => v = .int .i64 (e : Int) ∧ u = .bool bq ∧ wc = wx)
                case first =>
                  by_cases q8 : md < e
                  · have g6 : decide ((md : Int) < (e : Int)) = true := decide_eq_true (by omega)
                    by_cases q9 : e < b
                    · have g7 : decide ((e : Int) < (b : Int)) = true := decide_eq_true (by omega)
                      have hb9 : Hid (bq = true) := Lib.hid (by rw [← hbq, decide_eq_true q8, decide_eq_true q9]; rfl)
                      have hq8 := Lib.hid q8
                      have hq9 := Lib.hid q9
                      clear hbq q8 q9
                      go_wp2_with fail
                      go_meet
                      exact ⟨rfl, by first | (rw [hb9.out, decide_eq_true hq9.out]; done) | (rw [hb9.out]; done), rfl⟩
                    · have g7 : decide ((e : Int) < (b : Int)) = false := decide_eq_false (by omega)
                      have hb9 : Hid (bq = false) := Lib.hid (by rw [← hbq, decide_eq_true q8, decide_eq_false q9]; rfl)
                      have hq8 := Lib.hid q8
                      have hq9 : Hid (¬ (e < b)) := Lib.hid q9
                      clear hbq q8 q9
                      go_wp2_with fail
                      go_meet
                      exact ⟨rfl, by first | (rw [hb9.out, decide_eq_false hq9.out]; done) | (rw [hb9.out]; done), rfl⟩
                  · have g6 : decide ((md : Int) < (e : Int)) = false := decide_eq_false (by omega)
                    have hb9 : Hid (bq = false) := Lib.hid (by rw [← hbq, decide_eq_false q8]; rfl)
                    have hq8 : Hid (¬ (md < e)) := Lib.hid q8
                    clear hbq q8
                    go_wp2_with fail
                    go_meet
                    exact ⟨rfl, by first | (rw [hb9.out]; done) | (rw [hb9.out, decide_eq_false hq8.out]; done), rfl⟩
                case rest =>
                  obtain ⟨rfl, rfl, rfl⟩ := hcut
                  go_upto_if 213 with fail
                  rcases bq with _ | _
                  · go_wp2_with fail
                    go_end0
                    exact ⟨rfl, D2, hP.out, hW.out, HB⟩
                  · have q9 : md < e ∧ e < b := by simpa using hbq
                    have HS := Lib.hid (HIH.out md e b D2 wc (by omega) (by omega) (by omega) (by omega) (hcl.out D2 hP.out) (hw.trans HB) hW.out)
                    clear q9 hbq
                    go_wp2_with fail
                    refine HS.out.mono ?_
                    rintro e9 w9 ⟨rfl, D3, t1, t2, t3⟩
                    go_wp2_with fail
                    go_end0
                    exact ⟨rfl, D3, t1.trans hP.out, t2, HB.trans t3⟩
theorem symM_any (f : Nat → Int) (X base g cap n : Nat) (w0 : World) (hn : n ≤ 1000000) (hbs0 : base ≤ w0.heap.size) (HC : Hid (∀ i k, i < n → k < n → ∀ W, Below base w0 W → Calls Tryd.prog 48 #[.int .i64 (i : Int), .int .i64 (k : Int), .pointer (some ⟨X, 0, none⟩)] W fun e w' => e = .returned (.int .i64 (f k - f i)) ∧ Below W.heap.size W w'))  : ∀ s : Nat, ∀ (a m b : Nat) (D : List Nat) (w : World), b - a ≤ s → a < m → m < b → b ≤ n → (∀ y ∈ D, y < n) → Below base w0 w → PmW base g cap n w D → Calls Tryd.prog 83 #[.slice (some ⟨g, 0, none⟩) n cap, .int .i64 (a : Int), .int .i64 (m : Int), .int .i64 (b : Int), .func (.func 48) #[] #[.pointer (some ⟨X, 0, none⟩)]] w fun e w' => e = .returned (.tuple #[]) ∧ PmR base g cap n D w w'
  | 0, a, m, b, D, w, h0, h1, h2, h3, hDn, hw, hP => by omega
  | s + 1, a, m, b, D, w, h0, h1, h2, h3, hDn, hw, hP => by
    by_cases q1 : m - a = 1
    · exact symA_any f X base g cap n w0 hn hbs0 HC a m b D w h1 h2 h3 hDn hw hP q1
    · by_cases q2 : b - m = 1
      · exact symB_any f X base g cap n w0 hn hbs0 HC a m b D w h1 h2 h3 hDn hw hP q1 q2
      · exact symC_any f X base g cap n w0 hn hbs0 HC a m b D w h1 h2 h3 hDn hw hP s h0 (Lib.hid (symM_any f X base g cap n w0 hn hbs0 HC s)) q1 q2
end Go.Proofs.YtjlkbmaigcgnbaaDoor
