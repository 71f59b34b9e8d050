import Derived.Test.YtccakklnbhcbdaaGreatDoorRSzD
set_option linter.unusedVariables false
set_option linter.unusedSimpArgs false
namespace Go.Proofs.YtccakklnbhcbdaaGreatDoor
open Go.ChangeShapes Go.WideShapes Go.ChangeAt Go.RowKit
set_option maxRecDepth 100000 in
set_option maxHeartbeats 4000000 in
theorem same17_any (A1 A2 B1 B2 : List (List Int)) (v1 v2 u1 u2 : Value) (w : World) (hA1 : ∀ x ∈ A1, x.length = 6) (hA2 : ∀ x ∈ A2, x.length = 6) (hB1 : ∀ x ∈ B1, x.length = 6) (hB2 : ∀ x ∈ B2, x.length = 6) (r1 : Sl w 6 (encK 6) v1 A1) (r2 : Sl w 6 (encK 6) v2 A2) (r3 : Sl w 6 (encK 6) u1 B1) (r4 : Sl w 6 (encK 6) u2 B2) : Calls Tryz.prog 97 #[.agg #[v1, v2], .agg #[u1, u2]] w fun e w' => e = .returned (.bool (decide (A1 = B1) && decide (A2 = B2))) ∧ Below w.heap.size w w' := by
 obtain ⟨a1, c1, rfl, s1, s2, q_A1⟩ := r1
 obtain ⟨a2, c2, rfl, s3, s4, q_A2⟩ := r2
 obtain ⟨a3, c3, rfl, -, -, q_B1⟩ := r3
 obtain ⟨a4, c4, rfl, -, -, q_B2⟩ := r4
 have h_A1 := Lib.hid hA1
 have h_A2 := Lib.hid hA2
 have h_B1 := Lib.hid hB1
 have h_B2 := Lib.hid hB2
 obtain ⟨n1, m1⟩ : ∃ n, A1.length = n := ⟨_, rfl⟩
 obtain ⟨n2, m2⟩ : ∃ n, A2.length = n := ⟨_, rfl⟩
 obtain ⟨n3, m3⟩ : ∃ n, B1.length = n := ⟨_, rfl⟩
 obtain ⟨n4, m4⟩ : ∃ n, B2.length = n := ⟨_, rfl⟩
 have e1 : n1 ≠ n3 → decide (A1 = B1) = false := fun h => decide_eq_false fun e => h (by rw [← m1, ← m3, e])
 have e2 : n2 ≠ n4 → decide (A2 = B2) = false := fun h => decide_eq_false fun e => h (by rw [← m2, ← m4, e])
 rw [m1, m2, m3, m4]
 rw [m1] at s1
 rw [m2] at s3
 have hn9 : n1 ≤ 9223372036854775807 := by omega
 have hm9 : n2 ≤ 9223372036854775807 := by omega
 have n_A1 := Lib.hid m1
 have n_A2 := Lib.hid m2
 have n_B1 := Lib.hid m3
 have n_B2 := Lib.hid m4
 clear s1 s2 s3 s4 m1 m2 m3 m4 hA1 hA2 hB1 hB2
 go_enter Tryz.func97, Tryz.ntmps97
 go_upto_region 1 with fail
 generalize hWW : World.alloc (World.alloc w _) _ = W
 have ka : At W w.heap.size 24 #[.slice a1 n1 c1, .slice a2 n2 c2] := by rw [← hWW]; exact (At.new' rfl).al _
 have kb : At W (w.heap.size + 1) 24 #[.slice a3 n3 c3, .slice a4 n4 c4] := by rw [← hWW]; exact At.new' (by simp)
 have HB : Below w.heap.size w W := by rw [← hWW]; exact below_al (below_al (Below.refl _ _) _) _
 have hBW := Lib.hid HB
 have hX : Hid (∀ W', Below W.heap.size W W' → W'.cell? ⟨w.heap.size, 0, none⟩ = some (.slice a1 n1 c1) ∧ W'.cell? ⟨w.heap.size, 1, none⟩ = some (.slice a2 n2 c2) ∧ W'.cell? ⟨w.heap.size + 1, 0, none⟩ = some (.slice a3 n3 c3) ∧ W'.cell? ⟨w.heap.size + 1, 1, none⟩ = some (.slice a4 n4 c4)) := Lib.hid fun W' hb => ⟨(ka.bel hb).c 0, (ka.bel hb).c 1, (kb.bel hb).c 0, (kb.bel hb).c 1⟩
 replace q_A1 := Lib.hid (q_A1.bel (Nat.le_refl _) HB)
 replace q_A2 := Lib.hid (q_A2.bel (Nat.le_refl _) HB)
 replace q_B1 := Lib.hid (q_B1.bel (Nat.le_refl _) HB)
 replace q_B2 := Lib.hid (q_B2.bel (Nat.le_refl _) HB)
 have hwW := Lib.hid HB.size
 obtain ⟨z0, z1, z2, z3⟩ := hX.out W (Below.refl _ _)
 clear hWW ka kb HB
 by_cases hn : n1 = n3
 rotate_left
 ·have hne : ((n1 : Int) != (n3 : Int)) = true := by simp; omega
  have hne2 : ((n1 : Int) == (n3 : Int)) = false := by simp; omega
  have hF := Lib.hid (e1 hn)
  clear e1 e2 hn
  go_wp2_with fail
  go_ret
  exact ⟨by rw [hF.out]; first | done | rfl | (simp; done), hBW.out⟩
 by_cases hm : n2 = n4
 rotate_left
 ·subst hn
  have hne : ((n2 : Int) != (n4 : Int)) = true := by simp; omega
  have hne2 : ((n2 : Int) == (n4 : Int)) = false := by simp; omega
  have hF := Lib.hid (e2 hm)
  clear e1 e2 hm
  go_wp2_with fail
  go_ret
  exact ⟨by rw [hF.out]; first | done | rfl | (simp; done), hBW.out⟩
 subst hn hm
 clear e1 e2
 go_wp2_with fail
 go_loopg [5] n1 (fun g i wr => ∃ (k : Nat), k ≤ n1 ∧ i = .int .i64 (k : Int) ∧ Hid (g = n1 - k ∧ A1.take k = B1.take k) ∧ Hid (Below W.heap.size W wr))
 case atStart => exact ⟨0, Nat.zero_le _, rfl, Lib.hid ⟨rfl, rfl⟩, Lib.hid (Below.refl _ _)⟩
 case round =>
  clear z0 z1 z2 z3
  obtain ⟨k, hk, rfl, hg, hB⟩ := hrel
  obtain ⟨z0, z1, z2, z3⟩ := hX.out wr hB.out
  by_cases hlt : k < n1
  ·replace q_A1 : Hid (RowAt (encK 6) 6 W.heap.size W a1 A1) := Lib.hid (q_A1.out.mono hwW.out)
   replace q_B1 : Hid (RowAt (encK 6) 6 W.heap.size W a3 B1) := Lib.hid (q_B1.out.mono hwW.out)
   have k1 : k < A1.length := by rw [n_A1.out]; exact hlt
   have k2 : k < B1.length := by rw [n_B1.out]; exact hlt
   obtain ⟨b1, o1, rfl, hb1, hc1⟩ := q_A1.out k k1
   obtain ⟨b2, o2, rfl, hb2, hc2⟩ := q_B1.out k k2
   have hnext : Hid (A1[k] = B1[k] → A1.take (k + 1) = B1.take (k + 1)) := Lib.hid fun h => take_eq hg.out.2 k1 k2 h
   have hfail : Hid (A1[k] ≠ B1[k] → decide (A1 = B1) = false) := Lib.hid fun h => decide_eq_false fun e => h (by subst e; rfl)
   have t1 := h_A1.out _ (List.getElem_mem k1)
   have t2 := h_B1.out _ (List.getElem_mem k2)
   replace hc1 := fun j u hu => (hB.out.cell hb1).trans (hc1 j u hu)
   replace hc2 := fun j u hu => (hB.out.cell hb2).trans (hc2 j u hu)
   generalize A1[k] = x at *
   generalize B1[k] = y at *
   obtain ⟨e0, e1, e2, e3, e4, e5, rfl⟩ := six t1
   obtain ⟨f0, f1, f2, f3, f4, f5, rfl⟩ := six t2
   have x0 : wr.cell? ⟨b1, o1 + k * 6, none⟩ = some (.int .i64 e0) := hc1 0 _ rfl
   have y0 : wr.cell? ⟨b2, o2 + k * 6, none⟩ = some (.int .i64 f0) := hc2 0 _ rfl
   have x1 : wr.cell? ⟨b1, o1 + k * 6 + 1, none⟩ = some (.int .i64 e1) := hc1 1 _ rfl
   have y1 : wr.cell? ⟨b2, o2 + k * 6 + 1, none⟩ = some (.int .i64 f1) := hc2 1 _ rfl
   have x2 : wr.cell? ⟨b1, o1 + k * 6 + 2, none⟩ = some (.int .i64 e2) := hc1 2 _ rfl
   have y2 : wr.cell? ⟨b2, o2 + k * 6 + 2, none⟩ = some (.int .i64 f2) := hc2 2 _ rfl
   have x3 : wr.cell? ⟨b1, o1 + k * 6 + 3, none⟩ = some (.int .i64 e3) := hc1 3 _ rfl
   have y3 : wr.cell? ⟨b2, o2 + k * 6 + 3, none⟩ = some (.int .i64 f3) := hc2 3 _ rfl
   have x4 : wr.cell? ⟨b1, o1 + k * 6 + 4, none⟩ = some (.int .i64 e4) := hc1 4 _ rfl
   have y4 : wr.cell? ⟨b2, o2 + k * 6 + 4, none⟩ = some (.int .i64 f4) := hc2 4 _ rfl
   have x5 : wr.cell? ⟨b1, o1 + k * 6 + 5, none⟩ = some (.int .i64 e5) := hc1 5 _ rfl
   have y5 : wr.cell? ⟨b2, o2 + k * 6 + 5, none⟩ = some (.int .i64 f5) := hc2 5 _ rfl
   clear t1 t2 hc1 hc2 hb1 hb2 k1 k2
   by_cases h0 : e0 = f0
   ·subst h0
    by_cases h1 : e1 = f1
    ·subst h1
     by_cases h2 : e2 = f2
     ·subst h2
      by_cases h3 : e3 = f3
      ·subst h3
       by_cases h4 : e4 = f4
       ·subst h4
        by_cases h5 : e5 = f5
        ·subst h5
         have hN := Lib.hid (hnext.out rfl)
         clear hnext hfail
         go_wp2_with fail
         go_quiet (fail)
         go_wp2_with fail
         go_roundg (n1 - (k + 1))
         case measure => have := hg.out.1; omega
         case rel => exact ⟨k + 1, by omega, by go_num, Lib.hid ⟨rfl, hN.out⟩, Lib.hid (below_drewN hB.out _)⟩
        ·have hs : (e5 == f5) = false := by simpa using h5
         have hs2 : (e5 != f5) = true := by simpa using h5
         have hF := Lib.hid (hfail.out (fun hxy => h5 (congrArg (fun x : List Int => x.getD 5 0) hxy)))
         clear hnext hfail
         go_wp2_with fail
         go_quiet (fail)
         go_wp2_with fail
         go_ret
         exact ⟨by rw [hF.out]; first | done | rfl | (simp; done), below_drewN (below_then hBW.out hB.out) _⟩
       ·have hs : (e4 == f4) = false := by simpa using h4
        have hs2 : (e4 != f4) = true := by simpa using h4
        have hF := Lib.hid (hfail.out (fun hxy => h4 (congrArg (fun x : List Int => x.getD 4 0) hxy)))
        clear hnext hfail
        go_wp2_with fail
        go_quiet (fail)
        go_wp2_with fail
        go_ret
        exact ⟨by rw [hF.out]; first | done | rfl | (simp; done), below_drewN (below_then hBW.out hB.out) _⟩
      ·have hs : (e3 == f3) = false := by simpa using h3
       have hs2 : (e3 != f3) = true := by simpa using h3
       have hF := Lib.hid (hfail.out (fun hxy => h3 (congrArg (fun x : List Int => x.getD 3 0) hxy)))
       clear hnext hfail
       go_wp2_with fail
       go_quiet (fail)
       go_wp2_with fail
       go_ret
       exact ⟨by rw [hF.out]; first | done | rfl | (simp; done), below_drewN (below_then hBW.out hB.out) _⟩
     ·have hs : (e2 == f2) = false := by simpa using h2
      have hs2 : (e2 != f2) = true := by simpa using h2
      have hF := Lib.hid (hfail.out (fun hxy => h2 (congrArg (fun x : List Int => x.getD 2 0) hxy)))
      clear hnext hfail
      go_wp2_with fail
      go_quiet (fail)
      go_wp2_with fail
      go_ret
      exact ⟨by rw [hF.out]; first | done | rfl | (simp; done), below_drewN (below_then hBW.out hB.out) _⟩
    ·have hs : (e1 == f1) = false := by simpa using h1
     have hs2 : (e1 != f1) = true := by simpa using h1
     have hF := Lib.hid (hfail.out (fun hxy => h1 (congrArg (fun x : List Int => x.getD 1 0) hxy)))
     clear hnext hfail
     go_wp2_with fail
     go_quiet (fail)
     go_wp2_with fail
     go_ret
     exact ⟨by rw [hF.out]; first | done | rfl | (simp; done), below_drewN (below_then hBW.out hB.out) _⟩
   ·have hs : (e0 == f0) = false := by simpa using h0
    have hs2 : (e0 != f0) = true := by simpa using h0
    have hF := Lib.hid (hfail.out (fun hxy => h0 (congrArg (fun x : List Int => x.getD 0 0) hxy)))
    clear hnext hfail
    go_wp2_with fail
    go_quiet (fail)
    go_wp2_with fail
    go_ret
    exact ⟨by rw [hF.out]; first | done | rfl | (simp; done), below_drewN (below_then hBW.out hB.out) _⟩
  ·obtain rfl : n1 = k := by omega
   have hE1 : Hid (decide (A1 = B1) = true) := Lib.hid (decide_eq_true (take_all hg.out.2 n_A1.out n_B1.out))
   obtain ⟨wo, rfl⟩ : ∃ wo, wo = wr := ⟨_, rfl⟩
   clear hg hlt
   go_wp2_with fail
   go_loopg [6] n2 (fun g i wr => ∃ (k : Nat), k ≤ n2 ∧ i = .int .i64 (k : Int) ∧ Hid (g = n2 - k ∧ A2.take k = B2.take k) ∧ Hid (Below W.heap.size W wr))
   case atStart => exact ⟨0, Nat.zero_le _, rfl, Lib.hid ⟨rfl, rfl⟩, hB⟩
   case round =>
    clear z0 z1 z2 z3 hB hk
    obtain ⟨k, hk, rfl, hg, hB⟩ := hrel
    obtain ⟨z0, z1, z2, z3⟩ := hX.out wr hB.out
    by_cases hlt : k < n2
    ·replace q_A2 : Hid (RowAt (encK 6) 6 W.heap.size W a2 A2) := Lib.hid (q_A2.out.mono hwW.out)
     replace q_B2 : Hid (RowAt (encK 6) 6 W.heap.size W a4 B2) := Lib.hid (q_B2.out.mono hwW.out)
     have k1 : k < A2.length := by rw [n_A2.out]; exact hlt
     have k2 : k < B2.length := by rw [n_B2.out]; exact hlt
     obtain ⟨b1, o1, rfl, hb1, hc1⟩ := q_A2.out k k1
     obtain ⟨b2, o2, rfl, hb2, hc2⟩ := q_B2.out k k2
     have hnext : Hid (A2[k] = B2[k] → A2.take (k + 1) = B2.take (k + 1)) := Lib.hid fun h => take_eq hg.out.2 k1 k2 h
     have hfail : Hid (A2[k] ≠ B2[k] → decide (A2 = B2) = false) := Lib.hid fun h => decide_eq_false fun e => h (by subst e; rfl)
     have t1 := h_A2.out _ (List.getElem_mem k1)
     have t2 := h_B2.out _ (List.getElem_mem k2)
     replace hc1 := fun j u hu => (hB.out.cell hb1).trans (hc1 j u hu)
     replace hc2 := fun j u hu => (hB.out.cell hb2).trans (hc2 j u hu)
     generalize A2[k] = x at *
     generalize B2[k] = y at *
     obtain ⟨e0, e1, e2, e3, e4, e5, rfl⟩ := six t1
     obtain ⟨f0, f1, f2, f3, f4, f5, rfl⟩ := six t2
     have x0 : wr.cell? ⟨b1, o1 + k * 6, none⟩ = some (.int .i64 e0) := hc1 0 _ rfl
     have y0 : wr.cell? ⟨b2, o2 + k * 6, none⟩ = some (.int .i64 f0) := hc2 0 _ rfl
     have x1 : wr.cell? ⟨b1, o1 + k * 6 + 1, none⟩ = some (.int .i64 e1) := hc1 1 _ rfl
     have y1 : wr.cell? ⟨b2, o2 + k * 6 + 1, none⟩ = some (.int .i64 f1) := hc2 1 _ rfl
     have x2 : wr.cell? ⟨b1, o1 + k * 6 + 2, none⟩ = some (.int .i64 e2) := hc1 2 _ rfl
     have y2 : wr.cell? ⟨b2, o2 + k * 6 + 2, none⟩ = some (.int .i64 f2) := hc2 2 _ rfl
     have x3 : wr.cell? ⟨b1, o1 + k * 6 + 3, none⟩ = some (.int .i64 e3) := hc1 3 _ rfl
     have y3 : wr.cell? ⟨b2, o2 + k * 6 + 3, none⟩ = some (.int .i64 f3) := hc2 3 _ rfl
     have x4 : wr.cell? ⟨b1, o1 + k * 6 + 4, none⟩ = some (.int .i64 e4) := hc1 4 _ rfl
     have y4 : wr.cell? ⟨b2, o2 + k * 6 + 4, none⟩ = some (.int .i64 f4) := hc2 4 _ rfl
     have x5 : wr.cell? ⟨b1, o1 + k * 6 + 5, none⟩ = some (.int .i64 e5) := hc1 5 _ rfl
     have y5 : wr.cell? ⟨b2, o2 + k * 6 + 5, none⟩ = some (.int .i64 f5) := hc2 5 _ rfl
     clear t1 t2 hc1 hc2 hb1 hb2 k1 k2
     by_cases h0 : e0 = f0
     ·subst h0
      by_cases h1 : e1 = f1
      ·subst h1
       by_cases h2 : e2 = f2
       ·subst h2
        by_cases h3 : e3 = f3
        ·subst h3
         by_cases h4 : e4 = f4
         ·subst h4
          by_cases h5 : e5 = f5
          ·subst h5
           have hN := Lib.hid (hnext.out rfl)
           clear hnext hfail
           go_wp2_with fail
           go_quiet (fail)
           go_wp2_with fail
           go_roundg (n2 - (k + 1))
           case measure => have := hg.out.1; omega
           case rel => exact ⟨k + 1, by omega, by go_num, Lib.hid ⟨rfl, hN.out⟩, Lib.hid (below_drewN hB.out _)⟩
          ·have hs : (e5 == f5) = false := by simpa using h5
           have hs2 : (e5 != f5) = true := by simpa using h5
           have hF := Lib.hid (hfail.out (fun hxy => h5 (congrArg (fun x : List Int => x.getD 5 0) hxy)))
           clear hnext hfail
           go_wp2_with fail
           go_quiet (fail)
           go_wp2_with fail
           go_ret
           exact ⟨by rw [hF.out]; first | done | rfl | (simp; done), below_drewN (below_then hBW.out hB.out) _⟩
         ·have hs : (e4 == f4) = false := by simpa using h4
          have hs2 : (e4 != f4) = true := by simpa using h4
          have hF := Lib.hid (hfail.out (fun hxy => h4 (congrArg (fun x : List Int => x.getD 4 0) hxy)))
          clear hnext hfail
          go_wp2_with fail
          go_quiet (fail)
          go_wp2_with fail
          go_ret
          exact ⟨by rw [hF.out]; first | done | rfl | (simp; done), below_drewN (below_then hBW.out hB.out) _⟩
        ·have hs : (e3 == f3) = false := by simpa using h3
         have hs2 : (e3 != f3) = true := by simpa using h3
         have hF := Lib.hid (hfail.out (fun hxy => h3 (congrArg (fun x : List Int => x.getD 3 0) hxy)))
         clear hnext hfail
         go_wp2_with fail
         go_quiet (fail)
         go_wp2_with fail
         go_ret
         exact ⟨by rw [hF.out]; first | done | rfl | (simp; done), below_drewN (below_then hBW.out hB.out) _⟩
       ·have hs : (e2 == f2) = false := by simpa using h2
        have hs2 : (e2 != f2) = true := by simpa using h2
        have hF := Lib.hid (hfail.out (fun hxy => h2 (congrArg (fun x : List Int => x.getD 2 0) hxy)))
        clear hnext hfail
        go_wp2_with fail
        go_quiet (fail)
        go_wp2_with fail
        go_ret
        exact ⟨by rw [hF.out]; first | done | rfl | (simp; done), below_drewN (below_then hBW.out hB.out) _⟩
      ·have hs : (e1 == f1) = false := by simpa using h1
       have hs2 : (e1 != f1) = true := by simpa using h1
       have hF := Lib.hid (hfail.out (fun hxy => h1 (congrArg (fun x : List Int => x.getD 1 0) hxy)))
       clear hnext hfail
       go_wp2_with fail
       go_quiet (fail)
       go_wp2_with fail
       go_ret
       exact ⟨by rw [hF.out]; first | done | rfl | (simp; done), below_drewN (below_then hBW.out hB.out) _⟩
     ·have hs : (e0 == f0) = false := by simpa using h0
      have hs2 : (e0 != f0) = true := by simpa using h0
      have hF := Lib.hid (hfail.out (fun hxy => h0 (congrArg (fun x : List Int => x.getD 0 0) hxy)))
      clear hnext hfail
      go_wp2_with fail
      go_quiet (fail)
      go_wp2_with fail
      go_ret
      exact ⟨by rw [hF.out]; first | done | rfl | (simp; done), below_drewN (below_then hBW.out hB.out) _⟩
    ·have hE2 : Hid (decide (A2 = B2) = true) := Lib.hid (decide_eq_true (take_all (by have := hg.out.2; rwa [show k = n2 by omega] at this) n_A2.out n_B2.out))
     have hB' := Lib.hid (below_then hBW.out hB.out)
     go_wp2_with fail
     go_ret
     exact ⟨by rw [hE1.out, hE2.out]; first | done | rfl, hB'.out⟩
end Go.Proofs.YtccakklnbhcbdaaGreatDoor
