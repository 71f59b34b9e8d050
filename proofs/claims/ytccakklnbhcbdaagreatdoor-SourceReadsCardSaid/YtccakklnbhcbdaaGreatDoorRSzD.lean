import Derived.Test.YtccakklnbhcbdaaGreatDoorRQk
set_option linter.unusedVariables false
set_option linter.unusedSimpArgs false
namespace Go.Proofs.YtccakklnbhcbdaaGreatDoor
open Go.ChangeShapes Go.WideShapes Go.ChangeAt Go.RowKit
theorem take_eq {α : Type} {l m : List α} {k : Nat} (h : l.take k = m.take k) (h1 : k < l.length) (h2 : k < m.length) (hx : l[k] = m[k]) : l.take (k + 1) = m.take (k + 1) := by
 rw [List.take_succ_eq_append_getElem h1, List.take_succ_eq_append_getElem h2, h, hx]
theorem take_all {α : Type} {l m : List α} {n : Nat} (h : l.take n = m.take n) (h1 : l.length = n) (h2 : m.length = n) : l = m := by
 rwa [List.take_of_length_le (by omega), List.take_of_length_le (by omega)] at h
theorem by_ex (l : List UInt8) : ∃ M : ByteArray, l = by_ M := ⟨⟨l.toArray⟩, (mk_by l).symm⟩
theorem str_mk (M : ByteArray) : (⟨(by_ M).toArray⟩ : ByteArray) = M := by_mk M
theorem rowU {w : World} {b o k : Nat} {M : ByteArray} {e0 e1 e2 e3 e4 e5 e6 e7 e8 : Int} (hc : ∀ (j : Nat) (u : Value), (encU (by_ M, [e0, e1, e2, e3, e4, e5, e6, e7, e8]))[j]? = some u → w.cell? ⟨b, o + k * 10 + j, none⟩ = some u) :
  w.cell? ⟨b, o + k * 10, none⟩ = some (.string M) ∧ w.cell? ⟨b, o + k * 10 + 1, none⟩ = some (.int .i64 e0) ∧ w.cell? ⟨b, o + k * 10 + 2, none⟩ = some (.int .i64 e1) ∧ w.cell? ⟨b, o + k * 10 + 3, none⟩ = some (.int .i64 e2) ∧ w.cell? ⟨b, o + k * 10 + 4, none⟩ = some (.int .i64 e3) ∧ w.cell? ⟨b, o + k * 10 + 5, none⟩ = some (.int .i64 e4) ∧ w.cell? ⟨b, o + k * 10 + 6, none⟩ = some (.int .i64 e5) ∧ w.cell? ⟨b, o + k * 10 + 7, none⟩ = some (.int .i64 e6) ∧ w.cell? ⟨b, o + k * 10 + 8, none⟩ = some (.int .i64 e7) ∧ w.cell? ⟨b, o + k * 10 + 9, none⟩ = some (.int .i64 e8) :=
 ⟨hc 0 _ (by show some (Value.string ⟨(by_ M).toArray⟩) = _; rw [str_mk]), hc 1 _ rfl, hc 2 _ rfl, hc 3 _ rfl, hc 4 _ rfl, hc 5 _ rfl, hc 6 _ rfl, hc 7 _ rfl, hc 8 _ rfl, hc 9 _ rfl⟩
set_option maxRecDepth 100000 in
set_option maxHeartbeats 2000000 in
theorem same16_any (l1 l2 : List (List UInt8 × List Int)) (v1 v2 : Value) (w : World) (h1 : ∀ x ∈ l1, x.2.length = 9) (h2 : ∀ x ∈ l2, x.2.length = 9) (r1 : Sl w 10 encU v1 l1) (r2 : Sl w 10 encU v2 l2) : Calls Tryz.prog 99 #[v1, v2] w fun e w' => e = .returned (.bool (decide (l1 = l2))) ∧ Below w.heap.size w w' := by
 obtain ⟨a1, c1, rfl, s1, s2, q1⟩ := r1
 obtain ⟨a2, c2, rfl, -, -, q2⟩ := r2
 by_cases hn : l1.length = l2.length
 rotate_left
 ·rw [decide_eq_false (fun h => hn (by rw [h]))]
  generalize l1.length = n1 at *
  generalize l2.length = n2 at *
  have hne : ((n1 : Int) != (n2 : Int)) = true := by simp; omega
  have hne2 : ((n1 : Int) == (n2 : Int)) = false := by simp; omega
  clear q1 q2 h1 h2
  go_enter Tryz.func99, Tryz.ntmps99
  go_wp2_with fail
  go_ret
  exact ⟨rfl, Below.refl _ _⟩
 ·obtain ⟨n, hn2⟩ : ∃ n, l2.length = n := ⟨_, rfl⟩
  rw [hn2] at hn
  rw [hn, hn2]
  have hn9 : n ≤ 9223372036854775807 := by omega
  clear s1 s2
  replace hn := Lib.hid hn
  replace hn2 := Lib.hid hn2
  replace q1 := Lib.hid q1
  replace q2 := Lib.hid q2
  replace h1 := Lib.hid h1
  replace h2 := Lib.hid h2
  go_enter Tryz.func99, Tryz.ntmps99
  go_wp2_with fail
  go_loopg [5] n (fun g i wr => ∃ (k : Nat), k ≤ n ∧ i = .int .i64 (k : Int) ∧ Hid (g = n - k ∧ l1.take k = l2.take k) ∧ Hid (Below w.heap.size w wr))
  case atStart => exact ⟨0, Nat.zero_le _, rfl, Lib.hid ⟨rfl, rfl⟩, Lib.hid (Below.refl _ _)⟩
  case round =>
   obtain ⟨k, hk, rfl, hg, hB⟩ := hrel
   by_cases hlt : k < n
   ·have k1 : k < l1.length := by rw [hn.out]; exact hlt
    have k2 : k < l2.length := by rw [hn2.out]; exact hlt
    obtain ⟨b1, o1, rfl, hb1, hc1⟩ := q1.out k k1
    obtain ⟨b2, o2, rfl, hb2, hc2⟩ := q2.out k k2
    have hnext : Hid (l1[k] = l2[k] → l1.take (k + 1) = l2.take (k + 1)) := Lib.hid fun h => take_eq hg.out.2 k1 k2 h
    have hfail : Hid (l1[k] ≠ l2[k] → decide (l1 = l2) = false) := Lib.hid fun h => decide_eq_false fun e => h (by subst e; rfl)
    have t1 := h1.out _ (List.getElem_mem k1)
    have t2 := h2.out _ (List.getElem_mem k2)
    replace hc1 := fun j u hu => (hB.out.cell hb1).trans (hc1 j u hu)
    replace hc2 := fun j u hu => (hB.out.cell hb2).trans (hc2 j u hu)
    generalize l1[k] = x at *
    generalize l2[k] = y at *
    obtain ⟨m1, x⟩ := x
    obtain ⟨m2, y⟩ := y
    obtain ⟨M, rfl⟩ := by_ex m1
    obtain ⟨N, rfl⟩ := by_ex m2
    obtain ⟨e0, e1, e2, e3, e4, e5, e6, e7, e8, rfl⟩ := nine t1
    obtain ⟨f0, f1, f2, f3, f4, f5, f6, f7, f8, rfl⟩ := nine t2
    obtain ⟨x0, x1, x2, x3, x4, x5, x6, x7, x8, x9⟩ := rowU hc1
    obtain ⟨y0, y1, y2, y3, y4, y5, y6, y7, y8, y9⟩ := rowU hc2
    clear t1 t2 hc1 hc2 hb1 hb2 k1 k2 q1 q2 h1 h2
    by_cases h0 : M = N
    ·subst h0
     by_cases h1 : e0 = f0
     ·subst h1
      by_cases h2 : e1 = f1
      ·subst h2
       by_cases h3 : e2 = f2
       ·subst h3
        by_cases h4 : e3 = f3
        ·subst h4
         by_cases h5 : e4 = f4
         ·subst h5
          by_cases h6 : e5 = f5
          ·subst h6
           by_cases h7 : e6 = f6
           ·subst h7
            by_cases h8 : e7 = f7
            ·subst h8
             by_cases h9 : e8 = f8
             ·subst h9
              have hN := Lib.hid (hnext.out rfl)
              clear hnext hfail
              go_wp2_with fail
              go_quiet (fail)
              go_wp2_with fail
              go_roundg (n - (k + 1))
              case measure => have := hg.out.1; omega
              case rel => exact ⟨k + 1, by omega, by go_num, Lib.hid ⟨rfl, hN.out⟩, Lib.hid (below_drewN hB.out _)⟩
             ·have hs : (e8 == f8) = false := by simpa using h9
              have hs2 : (e8 != f8) = true := by simpa using h9
              have hF := Lib.hid (hfail.out (fun hxy => h9 (congrArg (fun x : List UInt8 × List Int => x.2.getD 8 0) hxy)))
              clear hnext hfail
              go_wp2_with fail
              go_quiet (fail)
              go_wp2_with fail
              go_ret
              exact ⟨by rw [hF.out]; first | done | rfl, below_drewN hB.out _⟩
            ·have hs : (e7 == f7) = false := by simpa using h8
             have hs2 : (e7 != f7) = true := by simpa using h8
             have hF := Lib.hid (hfail.out (fun hxy => h8 (congrArg (fun x : List UInt8 × List Int => x.2.getD 7 0) hxy)))
             clear hnext hfail
             go_wp2_with fail
             go_quiet (fail)
             go_wp2_with fail
             go_ret
             exact ⟨by rw [hF.out]; first | done | rfl, below_drewN hB.out _⟩
           ·have hs : (e6 == f6) = false := by simpa using h7
            have hs2 : (e6 != f6) = true := by simpa using h7
            have hF := Lib.hid (hfail.out (fun hxy => h7 (congrArg (fun x : List UInt8 × List Int => x.2.getD 6 0) hxy)))
            clear hnext hfail
            go_wp2_with fail
            go_quiet (fail)
            go_wp2_with fail
            go_ret
            exact ⟨by rw [hF.out]; first | done | rfl, below_drewN hB.out _⟩
          ·have hs : (e5 == f5) = false := by simpa using h6
           have hs2 : (e5 != f5) = true := by simpa using h6
           have hF := Lib.hid (hfail.out (fun hxy => h6 (congrArg (fun x : List UInt8 × List Int => x.2.getD 5 0) hxy)))
           clear hnext hfail
           go_wp2_with fail
           go_quiet (fail)
           go_wp2_with fail
           go_ret
           exact ⟨by rw [hF.out]; first | done | rfl, below_drewN hB.out _⟩
         ·have hs : (e4 == f4) = false := by simpa using h5
          have hs2 : (e4 != f4) = true := by simpa using h5
          have hF := Lib.hid (hfail.out (fun hxy => h5 (congrArg (fun x : List UInt8 × List Int => x.2.getD 4 0) hxy)))
          clear hnext hfail
          go_wp2_with fail
          go_quiet (fail)
          go_wp2_with fail
          go_ret
          exact ⟨by rw [hF.out]; first | done | rfl, below_drewN hB.out _⟩
        ·have hs : (e3 == f3) = false := by simpa using h4
         have hs2 : (e3 != f3) = true := by simpa using h4
         have hF := Lib.hid (hfail.out (fun hxy => h4 (congrArg (fun x : List UInt8 × List Int => x.2.getD 3 0) hxy)))
         clear hnext hfail
         go_wp2_with fail
         go_quiet (fail)
         go_wp2_with fail
         go_ret
         exact ⟨by rw [hF.out]; first | done | rfl, below_drewN hB.out _⟩
       ·have hs : (e2 == f2) = false := by simpa using h3
        have hs2 : (e2 != f2) = true := by simpa using h3
        have hF := Lib.hid (hfail.out (fun hxy => h3 (congrArg (fun x : List UInt8 × List Int => x.2.getD 2 0) hxy)))
        clear hnext hfail
        go_wp2_with fail
        go_quiet (fail)
        go_wp2_with fail
        go_ret
        exact ⟨by rw [hF.out]; first | done | rfl, below_drewN hB.out _⟩
      ·have hs : (e1 == f1) = false := by simpa using h2
       have hs2 : (e1 != f1) = true := by simpa using h2
       have hF := Lib.hid (hfail.out (fun hxy => h2 (congrArg (fun x : List UInt8 × List Int => x.2.getD 1 0) hxy)))
       clear hnext hfail
       go_wp2_with fail
       go_quiet (fail)
       go_wp2_with fail
       go_ret
       exact ⟨by rw [hF.out]; first | done | rfl, below_drewN hB.out _⟩
     ·have hs : (e0 == f0) = false := by simpa using h1
      have hs2 : (e0 != f0) = true := by simpa using h1
      have hF := Lib.hid (hfail.out (fun hxy => h1 (congrArg (fun x : List UInt8 × List Int => x.2.getD 0 0) hxy)))
      clear hnext hfail
      go_wp2_with fail
      go_quiet (fail)
      go_wp2_with fail
      go_ret
      exact ⟨by rw [hF.out]; first | done | rfl, below_drewN hB.out _⟩
    ·have hs := str_ne h0
     have hF := Lib.hid (hfail.out (fun hxy => h0 (by_inj (congrArg Prod.fst hxy))))
     clear hnext hfail
     go_wp2_with fail
     go_quiet (fail)
     go_wp2_with fail
     go_ret
     exact ⟨by rw [hF.out]; first | done | rfl, below_drewN hB.out _⟩
   ·have hE : Hid (decide (l1 = l2) = true) := Lib.hid (decide_eq_true (take_all (by have := hg.out.2; rwa [show k = n by omega] at this) hn.out hn2.out))
    go_wp2_with fail
    go_ret
    exact ⟨by rw [hE.out]; first | done | rfl, hB.out⟩
end Go.Proofs.YtccakklnbhcbdaaGreatDoor
