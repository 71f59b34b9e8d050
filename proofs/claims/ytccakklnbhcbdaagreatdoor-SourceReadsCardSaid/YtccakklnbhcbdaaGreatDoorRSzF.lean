import Derived.Test.YtccakklnbhcbdaaGreatDoorRSzD
set_option linter.unusedVariables false
set_option linter.unusedSimpArgs false
namespace Go.Proofs.YtccakklnbhcbdaaGreatDoor
open Go.ChangeShapes Go.WideShapes Go.ChangeAt Go.RowKit
def DemV (w : World) (v : Value) (l : List (List UInt8 × List Int × List (List Int))) : Prop := ∃ ds : List Value, Sl w 8 encD v (l.zip ds) ∧ ds.length = l.length ∧ ∀ (k : Nat) (h1 : k < l.length) (h2 : k < ds.length), IsSt l[k].2.2 ds[k] w
theorem rowD {w : World} {b o k : Nat} {M : ByteArray} {e0 e1 e2 e3 e4 e5 : Int} {st : List (List Int)} {v : Value} (hc : ∀ (j : Nat) (u : Value), (encD ((by_ M, [e0, e1, e2, e3, e4, e5], st), v))[j]? = some u → w.cell? ⟨b, o + k * 8 + j, none⟩ = some u) :
  w.cell? ⟨b, o + k * 8, none⟩ = some (.string M) ∧ w.cell? ⟨b, o + k * 8 + 1, none⟩ = some (.int .i64 e0) ∧ w.cell? ⟨b, o + k * 8 + 2, none⟩ = some (.int .i64 e1) ∧ w.cell? ⟨b, o + k * 8 + 3, none⟩ = some (.int .i64 e2) ∧ w.cell? ⟨b, o + k * 8 + 4, none⟩ = some (.int .i64 e3) ∧ w.cell? ⟨b, o + k * 8 + 5, none⟩ = some (.int .i64 e4) ∧ w.cell? ⟨b, o + k * 8 + 6, none⟩ = some (.int .i64 e5) ∧ w.cell? ⟨b, o + k * 8 + 7, none⟩ = some v :=
 ⟨hc 0 _ (by show some (Value.string ⟨(by_ M).toArray⟩) = _; rw [str_mk]), hc 1 _ rfl, hc 2 _ rfl, hc 3 _ rfl, hc 4 _ rfl, hc 5 _ rfl, hc 6 _ rfl, hc 7 _ rfl⟩
set_option maxRecDepth 100000 in
set_option maxHeartbeats 4000000 in
theorem same23_any (l1 l2 : List (List UInt8 × List Int × List (List Int))) (v1 v2 : Value) (w : World) (h1 : ∀ x ∈ l1, x.2.1.length = 6 ∧ ∀ n ∈ x.2.2, n.length = 2) (h2 : ∀ x ∈ l2, x.2.1.length = 6 ∧ ∀ n ∈ x.2.2, n.length = 2) (r1 : DemV w v1 l1) (r2 : DemV w v2 l2) : Calls Tryz.prog 100 #[v1, v2] w fun e w' => e = .returned (.bool (decide (l1 = l2))) ∧ Below w.heap.size w w' := by
 obtain ⟨d1, ⟨a1, c1, rfl, s1, s2, q1⟩, nd1, t1⟩ := r1
 obtain ⟨d2, ⟨a2, c2, rfl, s3, s4, q2⟩, nd2, t2⟩ := r2
 have hz1 : (l1.zip d1).length = l1.length := by rw [List.length_zip, nd1]; simp
 have hz2 : (l2.zip d2).length = l2.length := by rw [List.length_zip, nd2]; simp
 rw [hz1] at s1 ⊢
 rw [hz2]
 by_cases hn : l1.length = l2.length
 rotate_left
 ·rw [decide_eq_false (fun h => hn (by rw [h]))]
  clear q1 q2 h1 h2 t1 t2 hz1 hz2 nd1 nd2 s1 s3
  generalize l1.length = n1 at *
  generalize l2.length = n2 at *
  have hne : ((n1 : Int) != (n2 : Int)) = true := by simp; omega
  have hne2 : ((n1 : Int) == (n2 : Int)) = false := by simp; omega
  go_enter Tryz.func100, Tryz.ntmps100
  go_wp2_with fail
  go_ret
  exact ⟨rfl, Below.refl _ _⟩
 ·obtain ⟨n, hn2⟩ : ∃ n, l2.length = n := ⟨_, rfl⟩
  rw [hn2] at hn
  rw [hn] at s1 ⊢
  rw [hn2]
  have hn9 : n ≤ 9223372036854775807 := by omega
  clear s1 s2 s3 s4
  replace hn := Lib.hid hn
  replace hn2 := Lib.hid hn2
  replace q1 := Lib.hid q1
  replace q2 := Lib.hid q2
  replace h1 := Lib.hid h1
  replace h2 := Lib.hid h2
  replace t1 := Lib.hid t1
  replace t2 := Lib.hid t2
  replace hz1 := Lib.hid hz1
  replace hz2 := Lib.hid hz2
  replace nd1 := Lib.hid nd1
  replace nd2 := Lib.hid nd2
  go_enter Tryz.func100, Tryz.ntmps100
  go_wp2_with fail
  go_loopg [5] n (fun g i wr => ∃ (k : Nat), k ≤ n ∧ i = .int .i64 (k : Int) ∧ Hid (g = n - k ∧ l1.take k = l2.take k) ∧ Hid (Below w.heap.size w wr))
  case atStart => exact ⟨0, Nat.zero_le _, rfl, Lib.hid ⟨rfl, rfl⟩, Lib.hid (Below.refl _ _)⟩
  case round =>
   obtain ⟨k, hk, rfl, hgo, hBo⟩ := hrel
   by_cases hlt : k < n
   ·have k1 : k < l1.length := by rw [hn.out]; exact hlt
    have k2 : k < l2.length := by rw [hn2.out]; exact hlt
    obtain ⟨b1, o1, rfl, hb1, hc1⟩ := q1.out k (by rw [hz1.out]; exact k1)
    obtain ⟨b2, o2, rfl, hb2, hc2⟩ := q2.out k (by rw [hz2.out]; exact k2)
    rw [List.getElem_zip] at hc1 hc2
    obtain ⟨sa, sc, es, hs8, hs9, rS⟩ := t1.out k k1 (by rw [nd1.out]; exact k1)
    obtain ⟨ta, tc, et, -, -, rT⟩ := t2.out k k2 (by rw [nd2.out]; exact k2)
    rw [es] at hc1
    rw [et] at hc2
    have hnext : Hid (l1[k] = l2[k] → l1.take (k + 1) = l2.take (k + 1)) := Lib.hid fun h => take_eq hgo.out.2 k1 k2 h
    have hfail : Hid (l1[k] ≠ l2[k] → decide (l1 = l2) = false) := Lib.hid fun h => decide_eq_false fun e => h (by subst e; rfl)
    have u1 := h1.out _ (List.getElem_mem k1)
    have u2 := h2.out _ (List.getElem_mem k2)
    have hX7 : Hid (∀ W, Below w.heap.size w W → W.cell? ⟨b1, o1 + k * 8 + 7, none⟩ = some (.slice sa l1[k].2.2.length sc) ∧ W.cell? ⟨b2, o2 + k * 8 + 7, none⟩ = some (.slice ta l2[k].2.2.length tc)) := Lib.hid fun W hb => ⟨(hb.cell hb1).trans (hc1 7 _ rfl), (hb.cell hb2).trans (hc2 7 _ rfl)⟩
    replace hc1 := fun j u hu => (hBo.out.cell hb1).trans (hc1 j u hu)
    replace hc2 := fun j u hu => (hBo.out.cell hb2).trans (hc2 j u hu)
    clear es et
    generalize l1[k] = x at *
    generalize l2[k] = y at *
    obtain ⟨m1, x, S⟩ := x
    obtain ⟨m2, y, T⟩ := y
    obtain ⟨M, rfl⟩ := by_ex m1
    obtain ⟨N, rfl⟩ := by_ex m2
    dsimp only at *
    have h_S := Lib.hid u1.2
    have h_T := Lib.hid u2.2
    obtain ⟨e0, e1, e2, e3, e4, e5, rfl⟩ := six u1.1
    obtain ⟨f0, f1, f2, f3, f4, f5, rfl⟩ := six u2.1
    obtain ⟨p1, n_S⟩ : ∃ p, S.length = p := ⟨_, rfl⟩
    obtain ⟨p2, n_T⟩ : ∃ p, T.length = p := ⟨_, rfl⟩
    rw [n_S] at hX7 hc1 hs8
    rw [n_T] at hX7 hc2
    have hp9 : p1 ≤ 9223372036854775807 := by omega
    replace n_S := Lib.hid n_S
    replace n_T := Lib.hid n_T
    have q_S := Lib.hid rS
    have q_T := Lib.hid rT
    obtain ⟨x0, x1, x2, x3, x4, x5, x6, x7⟩ := rowD hc1
    obtain ⟨y0, y1, y2, y3, y4, y5, y6, y7⟩ := rowD hc2
    clear u1 u2 hc1 hc2 hb1 hb2 k1 k2 q1 q2 h1 h2 t1 t2 rS rT hs8 hs9
    by_cases h0 : M = N
    ·subst h0
     by_cases h1 : e0 = f0
     ·subst h1
      by_cases h2 : e1 = f1
      ·subst h2
       by_cases h3 : e2 = f2
       ·subst h3
        by_cases h4 : e3 = f3
        ·subst h4
         by_cases h5 : e4 = f4
         ·subst h5
          by_cases h6 : e5 = f5
          ·subst h6
           by_cases h7 : p1 = p2
           ·subst h7
            have hfl : Hid (S ≠ T → decide (l1 = l2) = false) := Lib.hid fun h => hfail.out (fun hxy => h (congrArg (fun x : List UInt8 × List Int × List (List Int) => x.2.2) hxy))
            have hnx : Hid (S = T → l1.take (k + 1) = l2.take (k + 1)) := Lib.hid fun h => hnext.out (by rw [h])
            clear hnext hfail
            go_wp2_with fail
            go_quiet (fail)
            go_wp2_with fail
            go_loopg [6] p1 (fun g i wr => ∃ (j : Nat), j ≤ p1 ∧ i = .int .i64 (j : Int) ∧ Hid (g = p1 - j ∧ S.take j = T.take j) ∧ Hid (Below w.heap.size w wr))
            case atStart => exact ⟨0, Nat.zero_le _, rfl, Lib.hid ⟨rfl, rfl⟩, Lib.hid (below_drewN hBo.out _)⟩
            case round =>
             clear hBo x0 x1 x2 x3 x4 x5 x6 x7 y0 y1 y2 y3 y4 y5 y6 y7
             obtain ⟨j, hj, rfl, hg, hB⟩ := hrel
             obtain ⟨x7, y7⟩ := hX7.out wr hB.out
             by_cases hlt : j < p1
             ·have k1 : j < S.length := by rw [n_S.out]; exact hlt
              have k2 : j < T.length := by rw [n_T.out]; exact hlt
              obtain ⟨b1, o1, rfl, hb1, hc1⟩ := q_S.out j k1
              obtain ⟨b2, o2, rfl, hb2, hc2⟩ := q_T.out j k2
              have hnext : Hid (S[j] = T[j] → S.take (j + 1) = T.take (j + 1)) := Lib.hid fun h => take_eq hg.out.2 k1 k2 h
              have hfail : Hid (S[j] ≠ T[j] → decide (S = T) = false) := Lib.hid fun h => decide_eq_false fun e => h (by subst e; rfl)
              have t1 := h_S.out _ (List.getElem_mem k1)
              have t2 := h_T.out _ (List.getElem_mem k2)
              replace hc1 := fun j u hu => (hB.out.cell hb1).trans (hc1 j u hu)
              replace hc2 := fun j u hu => (hB.out.cell hb2).trans (hc2 j u hu)
              generalize S[j] = x at *
              generalize T[j] = y at *
              obtain ⟨e0, e1, rfl⟩ := two t1
              obtain ⟨f0, f1, rfl⟩ := two t2
              have x0 : wr.cell? ⟨b1, o1 + j * 2, none⟩ = some (.int .i64 e0) := hc1 0 _ rfl
              have y0 : wr.cell? ⟨b2, o2 + j * 2, none⟩ = some (.int .i64 f0) := hc2 0 _ rfl
              have x1 : wr.cell? ⟨b1, o1 + j * 2 + 1, none⟩ = some (.int .i64 e1) := hc1 1 _ rfl
              have y1 : wr.cell? ⟨b2, o2 + j * 2 + 1, none⟩ = some (.int .i64 f1) := hc2 1 _ rfl
              clear t1 t2 hc1 hc2 hb1 hb2 k1 k2
              by_cases h0 : e0 = f0
              ·subst h0
               by_cases h1 : e1 = f1
               ·subst h1
                have hN := Lib.hid (hnext.out rfl)
                clear hnext hfail
                go_wp2_with fail
                go_quiet (fail)
                go_wp2_with fail
                go_roundg (p1 - (j + 1))
                case measure => have := hg.out.1; omega
                case rel => exact ⟨j + 1, by omega, by go_num, Lib.hid ⟨rfl, hN.out⟩, Lib.hid (below_drewN hB.out _)⟩
               ·have hs : (e1 == f1) = false := by simpa using h1
                have hs2 : (e1 != f1) = true := by simpa using h1
                have hF := Lib.hid (hfail.out (fun hxy => h1 (congrArg (fun x : List Int => x.getD 1 0) hxy)))
                clear hnext hfail
                have hF2 := Lib.hid (hfl.out (of_decide_eq_false hF.out))
                go_wp2_with fail
                go_quiet (fail)
                go_wp2_with fail
                go_ret
                exact ⟨by rw [hF2.out]; first | done | rfl, below_drewN hB.out _⟩
              ·have hs : (e0 == f0) = false := by simpa using h0
               have hs2 : (e0 != f0) = true := by simpa using h0
               have hF := Lib.hid (hfail.out (fun hxy => h0 (congrArg (fun x : List Int => x.getD 0 0) hxy)))
               clear hnext hfail
               have hF2 := Lib.hid (hfl.out (of_decide_eq_false hF.out))
               go_wp2_with fail
               go_quiet (fail)
               go_wp2_with fail
               go_ret
               exact ⟨by rw [hF2.out]; first | done | rfl, below_drewN hB.out _⟩
             ·have hN := Lib.hid (hnx.out (take_all (by have := hg.out.2; rwa [show j = p1 by omega] at this) n_S.out n_T.out))
              clear hfl hnx
              go_wp2_with fail
              go_roundg (n - (k + 1))
              case measure => have := hgo.out.1; omega
              case rel => exact ⟨k + 1, by omega, by go_num, Lib.hid ⟨rfl, hN.out⟩, hB⟩
           ·have hs : ((p1 : Int) == (p2 : Int)) = false := by simp; omega
            have hs2 : ((p1 : Int) != (p2 : Int)) = true := by simp; omega
            have hF := Lib.hid (hfail.out (fun hxy => h7 (by rw [← n_S.out, ← n_T.out]; exact congrArg (fun x : List UInt8 × List Int × List (List Int) => x.2.2.length) hxy)))
            clear hnext hfail
            go_wp2_with fail
            go_quiet (fail)
            go_wp2_with fail
            go_ret
            exact ⟨by rw [hF.out]; first | done | rfl, below_drewN hBo.out _⟩
          ·have hs : (e5 == f5) = false := by simpa using h6
           have hs2 : (e5 != f5) = true := by simpa using h6
           have hF := Lib.hid (hfail.out (fun hxy => h6 (congrArg (fun x : List UInt8 × List Int × List (List Int) => x.2.1.getD 5 0) hxy)))
           clear hnext hfail
           go_wp2_with fail
           go_quiet (fail)
           go_wp2_with fail
           go_ret
           exact ⟨by rw [hF.out]; first | done | rfl, below_drewN hBo.out _⟩
         ·have hs : (e4 == f4) = false := by simpa using h5
          have hs2 : (e4 != f4) = true := by simpa using h5
          have hF := Lib.hid (hfail.out (fun hxy => h5 (congrArg (fun x : List UInt8 × List Int × List (List Int) => x.2.1.getD 4 0) hxy)))
          clear hnext hfail
          go_wp2_with fail
          go_quiet (fail)
          go_wp2_with fail
          go_ret
          exact ⟨by rw [hF.out]; first | done | rfl, below_drewN hBo.out _⟩
        ·have hs : (e3 == f3) = false := by simpa using h4
         have hs2 : (e3 != f3) = true := by simpa using h4
         have hF := Lib.hid (hfail.out (fun hxy => h4 (congrArg (fun x : List UInt8 × List Int × List (List Int) => x.2.1.getD 3 0) hxy)))
         clear hnext hfail
         go_wp2_with fail
         go_quiet (fail)
         go_wp2_with fail
         go_ret
         exact ⟨by rw [hF.out]; first | done | rfl, below_drewN hBo.out _⟩
       ·have hs : (e2 == f2) = false := by simpa using h3
        have hs2 : (e2 != f2) = true := by simpa using h3
        have hF := Lib.hid (hfail.out (fun hxy => h3 (congrArg (fun x : List UInt8 × List Int × List (List Int) => x.2.1.getD 2 0) hxy)))
        clear hnext hfail
        go_wp2_with fail
        go_quiet (fail)
        go_wp2_with fail
        go_ret
        exact ⟨by rw [hF.out]; first | done | rfl, below_drewN hBo.out _⟩
      ·have hs : (e1 == f1) = false := by simpa using h2
       have hs2 : (e1 != f1) = true := by simpa using h2
       have hF := Lib.hid (hfail.out (fun hxy => h2 (congrArg (fun x : List UInt8 × List Int × List (List Int) => x.2.1.getD 1 0) hxy)))
       clear hnext hfail
       go_wp2_with fail
       go_quiet (fail)
       go_wp2_with fail
       go_ret
       exact ⟨by rw [hF.out]; first | done | rfl, below_drewN hBo.out _⟩
     ·have hs : (e0 == f0) = false := by simpa using h1
      have hs2 : (e0 != f0) = true := by simpa using h1
      have hF := Lib.hid (hfail.out (fun hxy => h1 (congrArg (fun x : List UInt8 × List Int × List (List Int) => x.2.1.getD 0 0) hxy)))
      clear hnext hfail
      go_wp2_with fail
      go_quiet (fail)
      go_wp2_with fail
      go_ret
      exact ⟨by rw [hF.out]; first | done | rfl, below_drewN hBo.out _⟩
    ·have hs := str_ne h0
     have hF := Lib.hid (hfail.out (fun hxy => h0 (by_inj (congrArg Prod.fst hxy))))
     clear hnext hfail
     go_wp2_with fail
     go_quiet (fail)
     go_wp2_with fail
     go_ret
     exact ⟨by rw [hF.out]; first | done | rfl, below_drewN hBo.out _⟩
   ·have hE : Hid (decide (l1 = l2) = true) := Lib.hid (decide_eq_true (take_all (by have := hgo.out.2; rwa [show k = n by omega] at this) hn.out hn2.out))
    go_wp2_with fail
    go_ret
    exact ⟨by rw [hE.out]; first | done | rfl, hBo.out⟩
end Go.Proofs.YtccakklnbhcbdaaGreatDoor
