import Derived.Test.YtccakklnbhcbdaaGreatDoorRSzD
import Derived.Test.YtccakklnbhcbdaaGreatDoorRA
set_option linter.unusedVariables false
set_option linter.unusedSimpArgs false
namespace Go.Proofs.YtccakklnbhcbdaaGreatDoor
open Go.ChangeShapes Go.WideShapes Go.ChangeAt Go.RowKit
def BarV (w : World) (v : Value) (l : List (List UInt8 × List Int)) : Prop := ∃ db : List Value, Sl w 5 encR v (l.zip db) ∧ db.length = l.length ∧ ∀ (k : Nat) (h1 : k < l.length) (h2 : k < db.length), IsI (l[k].2.drop 3) db[k] w
theorem rowR {w : World} {b o k : Nat} {M : ByteArray} {e0 e1 e2 : Int} {ds : List Int} {v : Value} (hc : ∀ (j : Nat) (u : Value), (encR ((by_ M, e0 :: e1 :: e2 :: ds), v))[j]? = some u → w.cell? ⟨b, o + k * 5 + j, none⟩ = some u) :
  w.cell? ⟨b, o + k * 5, none⟩ = some (.string M) ∧ w.cell? ⟨b, o + k * 5 + 1, none⟩ = some (.int .i64 e0) ∧ w.cell? ⟨b, o + k * 5 + 2, none⟩ = some (.int .i64 e1) ∧ w.cell? ⟨b, o + k * 5 + 3, none⟩ = some (.int .i64 e2) ∧ w.cell? ⟨b, o + k * 5 + 4, none⟩ = some v :=
 ⟨hc 0 _ (by show some (Value.string ⟨(by_ M).toArray⟩) = _; rw [str_mk]), hc 1 _ rfl, hc 2 _ rfl, hc 3 _ rfl, hc 4 _ rfl⟩
set_option maxRecDepth 100000 in
set_option maxHeartbeats 4000000 in
theorem same14_any (l1 l2 : List (List UInt8 × List Int)) (v1 v2 : Value) (w : World) (h1 : ∀ x ∈ l1, 3 ≤ x.2.length) (h2 : ∀ x ∈ l2, 3 ≤ x.2.length) (r1 : BarV w v1 l1) (r2 : BarV w v2 l2) : Calls Tryz.prog 98 #[v1, v2] w fun e w' => e = .returned (.bool (decide (l1 = l2))) ∧ Below w.heap.size w w' := by
 obtain ⟨d1, ⟨a1, c1, rfl, s1, s2, q1⟩, nd1, t1⟩ := r1
 obtain ⟨d2, ⟨a2, c2, rfl, s3, s4, q2⟩, nd2, t2⟩ := r2
 have hz1 : (l1.zip d1).length = l1.length := by rw [List.length_zip, nd1]; simp
 have hz2 : (l2.zip d2).length = l2.length := by rw [List.length_zip, nd2]; simp
 rw [hz1] at s1 ⊢
 rw [hz2]
 by_cases hn : l1.length = l2.length
 rotate_left
 ·rw [decide_eq_false (fun h => hn (by rw [h]))]
  clear q1 q2 h1 h2 t1 t2 hz1 hz2 nd1 nd2 s1 s3
  generalize l1.length = n1 at *
  generalize l2.length = n2 at *
  have hne : ((n1 : Int) != (n2 : Int)) = true := by simp; omega
  have hne2 : ((n1 : Int) == (n2 : Int)) = false := by simp; omega
  go_enter Tryz.func98, Tryz.ntmps98
  go_wp2_with fail
  go_ret
  exact ⟨rfl, Below.refl _ _⟩
 ·obtain ⟨n, hn2⟩ : ∃ n, l2.length = n := ⟨_, rfl⟩
  rw [hn2] at hn
  rw [hn] at s1 ⊢
  rw [hn2]
  have hn9 : n ≤ 9223372036854775807 := by omega
  clear s1 s2 s3 s4
  replace hn := Lib.hid hn
  replace hn2 := Lib.hid hn2
  replace q1 := Lib.hid q1
  replace q2 := Lib.hid q2
  replace h1 := Lib.hid h1
  replace h2 := Lib.hid h2
  replace t1 := Lib.hid t1
  replace t2 := Lib.hid t2
  replace hz1 := Lib.hid hz1
  replace hz2 := Lib.hid hz2
  replace nd1 := Lib.hid nd1
  replace nd2 := Lib.hid nd2
  go_enter Tryz.func98, Tryz.ntmps98
  go_wp2_with fail
  go_loopg [5] n (fun g i wr => ∃ (k : Nat), k ≤ n ∧ i = .int .i64 (k : Int) ∧ Hid (g = n - k ∧ l1.take k = l2.take k) ∧ Hid (Below w.heap.size w wr))
  case atStart => exact ⟨0, Nat.zero_le _, rfl, Lib.hid ⟨rfl, rfl⟩, Lib.hid (Below.refl _ _)⟩
  case round =>
   obtain ⟨k, hk, rfl, hgo, hBo⟩ := hrel
   by_cases hlt : k < n
   ·have k1 : k < l1.length := by rw [hn.out]; exact hlt
    have k2 : k < l2.length := by rw [hn2.out]; exact hlt
    obtain ⟨b1, o1, rfl, hb1, hc1⟩ := q1.out k (by rw [hz1.out]; exact k1)
    obtain ⟨b2, o2, rfl, hb2, hc2⟩ := q2.out k (by rw [hz2.out]; exact k2)
    rw [List.getElem_zip] at hc1 hc2
    obtain ⟨sa, sc, es, hs8, hs9, rS⟩ := t1.out k k1 (by rw [nd1.out]; exact k1)
    obtain ⟨ta, tc, et, -, -, rT⟩ := t2.out k k2 (by rw [nd2.out]; exact k2)
    rw [es] at hc1
    rw [et] at hc2
    have hnext : Hid (l1[k] = l2[k] → l1.take (k + 1) = l2.take (k + 1)) := Lib.hid fun h => take_eq hgo.out.2 k1 k2 h
    have hfail : Hid (l1[k] ≠ l2[k] → decide (l1 = l2) = false) := Lib.hid fun h => decide_eq_false fun e => h (by subst e; rfl)
    have u1 := h1.out _ (List.getElem_mem k1)
    have u2 := h2.out _ (List.getElem_mem k2)
    clear es et
    generalize l1[k] = x at *
    generalize l2[k] = y at *
    obtain ⟨m1, x⟩ := x
    obtain ⟨m2, y⟩ := y
    obtain ⟨M, rfl⟩ := by_ex m1
    obtain ⟨N, rfl⟩ := by_ex m2
    dsimp only at *
    obtain ⟨e0, e1, e2, S, rfl⟩ := three_more u1
    obtain ⟨f0, f1, f2, T, rfl⟩ := three_more u2
    simp only [List.drop_succ_cons, List.drop_zero] at hs8 rS rT hc1 hc2
    obtain ⟨p1, n_S⟩ : ∃ p, S.length = p := ⟨_, rfl⟩
    obtain ⟨p2, n_T⟩ : ∃ p, T.length = p := ⟨_, rfl⟩
    rw [n_S] at hc1 hs8
    rw [n_T] at hc2
    have hp9 : p1 ≤ 9223372036854775807 := by omega
    replace n_S := Lib.hid n_S
    replace n_T := Lib.hid n_T
    have q_S := Lib.hid rS
    have q_T := Lib.hid rT
    have hcl : Hid (∀ W, Below w.heap.size w W → W.cell? ⟨b1, o1 + k * 5, none⟩ = some (.string M) ∧ W.cell? ⟨b1, o1 + k * 5 + 1, none⟩ = some (.int .i64 e0) ∧ W.cell? ⟨b1, o1 + k * 5 + 2, none⟩ = some (.int .i64 e1) ∧ W.cell? ⟨b1, o1 + k * 5 + 3, none⟩ = some (.int .i64 e2) ∧ W.cell? ⟨b1, o1 + k * 5 + 4, none⟩ = some (.slice sa p1 sc) ∧ W.cell? ⟨b2, o2 + k * 5, none⟩ = some (.string N) ∧ W.cell? ⟨b2, o2 + k * 5 + 1, none⟩ = some (.int .i64 f0) ∧ W.cell? ⟨b2, o2 + k * 5 + 2, none⟩ = some (.int .i64 f1) ∧ W.cell? ⟨b2, o2 + k * 5 + 3, none⟩ = some (.int .i64 f2) ∧ W.cell? ⟨b2, o2 + k * 5 + 4, none⟩ = some (.slice ta p2 tc)) := Lib.hid fun W hb => by
     obtain ⟨x0, x1, x2, x3, x4⟩ := rowR fun j u hu => (hb.cell hb1).trans (hc1 j u hu)
     obtain ⟨y0, y1, y2, y3, y4⟩ := rowR fun j u hu => (hb.cell hb2).trans (hc2 j u hu)
     exact ⟨x0, x1, x2, x3, x4, y0, y1, y2, y3, y4⟩
    clear u1 u2 hc1 hc2 hb1 hb2 k1 k2 q1 q2 h1 h2 t1 t2 rS rT hs8 hs9
    go_upto_region 6 with fail
    refine wp_region_noPanic ?_
    refine wp_region_held_drew (S := (fun W' => Below w.heap.size w W')) (by kernel_rfl) ?_ (fun hHeld => ?_)
    ·(try dsimp only); (repeat (first | with_reducible assumption | with_reducible refine below_al ?_ _ | with_reducible refine below_drew ?_ | exact hBo.out))
    refine tak (i := 0) (v := ?_) (gt rfl) ?_ ?_
    rotate_left
    focus (intro w hSw; (try dsimp only at hSw); obtain ⟨x0, x1, x2, x3, x4, y0, y1, y2, y3, y4⟩ := hcl.out _ hSw; go_simp; first | done | with_reducible rfl)
    (try simp only [pu, pn, si, s0, sn])
    refine tak (i := 1) (v := ?_) (gt rfl) ?_ ?_
    rotate_left
    focus (intro w hSw; (try dsimp only at hSw); obtain ⟨x0, x1, x2, x3, x4, y0, y1, y2, y3, y4⟩ := hcl.out _ hSw; go_simp; first | done | with_reducible rfl)
    (try simp only [pu, pn, si, s0, sn])
    refine tak (i := 2) (v := ?_) (gt rfl) ?_ ?_
    rotate_left
    focus (intro w hSw; (try dsimp only at hSw); obtain ⟨x0, x1, x2, x3, x4, y0, y1, y2, y3, y4⟩ := hcl.out _ hSw; go_simp; first | done | with_reducible rfl)
    (try simp only [pu, pn, si, s0, sn])
    refine tak (i := 3) (v := ?_) (gt rfl) ?_ ?_
    rotate_left
    focus (intro w hSw; (try dsimp only at hSw); obtain ⟨x0, x1, x2, x3, x4, y0, y1, y2, y3, y4⟩ := hcl.out _ hSw; go_simp; first | done | with_reducible rfl)
    (try simp only [pu, pn, si, s0, sn])
    refine tak (i := 4) (v := ?_) (gt rfl) ?_ ?_
    rotate_left
    focus (intro w hSw; (try dsimp only at hSw); obtain ⟨x0, x1, x2, x3, x4, y0, y1, y2, y3, y4⟩ := hcl.out _ hSw; go_simp; first | done | with_reducible rfl)
    (try simp only [pu, pn, si, s0, sn])
    refine tak (i := 5) (v := ?_) (gt rfl) ?_ ?_
    rotate_left
    focus (intro w hSw; (try dsimp only at hSw); obtain ⟨x0, x1, x2, x3, x4, y0, y1, y2, y3, y4⟩ := hcl.out _ hSw; go_simp; first | done | with_reducible rfl)
    (try simp only [pu, pn, si, s0, sn])
    refine tak (i := 6) (v := ?_) (gt rfl) ?_ ?_
    rotate_left
    focus (intro w hSw; (try dsimp only at hSw); obtain ⟨x0, x1, x2, x3, x4, y0, y1, y2, y3, y4⟩ := hcl.out _ hSw; go_simp; first | done | with_reducible rfl)
    (try simp only [pu, pn, si, s0, sn])
    refine tak (i := 7) (v := ?_) (gt rfl) ?_ ?_
    rotate_left
    focus (intro w hSw; (try dsimp only at hSw); obtain ⟨x0, x1, x2, x3, x4, y0, y1, y2, y3, y4⟩ := hcl.out _ hSw; go_simp; first | done | with_reducible rfl)
    (try simp only [pu, pn, si, s0, sn])
    refine wpAnyH_ready (rs := [8, 9]) (by kernel_rfl) (by simp) ?_
    refine AllReadyH.cons (i := 8) (gt rfl) (fun K hK => ?_) ?_
    ·go_simp
     refine hK.out _ _ ?_ (fun hHeld => ?_)
     ·(try dsimp only); (repeat (first | with_reducible assumption | with_reducible refine below_al ?_ _ | with_reducible refine below_drew ?_ | exact hBo.out))
     clear hK K
     (try simp only [pu, pn, si, s0, sn])
     refine wpAnyH_ready (rs := [9]) (by kernel_rfl) (by simp) ?_
     refine AllReadyH.cons (i := 9) (gt rfl) (fun K hK => ?_) ?_
     ·go_simp
      refine hK.out _ _ ?_ (fun hHeld => ?_)
      ·(try dsimp only); (repeat (first | with_reducible assumption | with_reducible refine below_al ?_ _ | with_reducible refine below_drew ?_ | exact hBo.out))
      clear hK K
      (try simp only [pu, pn, si, s0, sn])
      generalize hA2 : World.drew (World.alloc (World.alloc wr _) _) = A2
      have nx : At A2 (wr.heap.size) 56 #[.string ⟨#[]⟩, .int .i64 0, .int .i64 0, .int .i64 0, .slice none 0 0] := by rw [← hA2]; exact ((At.new' (by simp)).al _).drw
      have ny : At A2 (wr.heap.size + 1) 56 #[.string ⟨#[]⟩, .int .i64 0, .int .i64 0, .int .i64 0, .slice none 0 0] := by rw [← hA2]; exact (At.new' (by simp)).drw
      have nH : Below w.heap.size w A2 := by rw [← hA2]; exact below_drew (below_al (below_al hBo.out _) _)
      have hlW := hBo.out.size
      clear hA2
      refine wpAnyH_ready (rs := [10]) (by kernel_rfl) (by simp) ?_
      refine AllReadyH.cons (i := 10) (gt rfl) (fun K hK => ?_) ?_
      ·refine step_store_row rfl 56 (.tmp 6) (.tmp 23) rfl (wr.heap.size) #[.string M, .int .i64 e0, .int .i64 e1, .int .i64 e2, .slice sa p1 sc] (by simp [Act.eval]) (by simp [Act.eval]) 56 #[.string ⟨#[]⟩, .int .i64 0, .int .i64 0, .int .i64 0, .slice none 0 0] (nx) (by kernel_rfl) (by rfl) (by simp [Value.oneCell']) ?_
       refine hK.out _ _ ?_ (fun hHeld => ?_)
       ·(try dsimp only); (repeat (first | with_reducible assumption | (refine below_row ?_ (by omega) _)))
       clear hK K
       (try simp only [pu, pn, si, s0, sn])
       refine wpAnyH_ready (rs := [11]) (by kernel_rfl) (by simp) ?_
       refine AllReadyH.cons (i := 11) (gt rfl) (fun K hK => ?_) ?_
       ·refine step_store_row rfl 56 (.tmp 7) (.tmp 27) rfl (wr.heap.size + 1) #[.string N, .int .i64 f0, .int .i64 f1, .int .i64 f2, .slice ta p2 tc] (by simp [Act.eval]) (by simp [Act.eval]) 56 #[.string ⟨#[]⟩, .int .i64 0, .int .i64 0, .int .i64 0, .slice none 0 0] ((setRow_other _ _ _ _ (by omega)).trans ny) (by kernel_rfl) (by rfl) (by simp [Value.oneCell']) ?_
        refine hK.out _ _ ?_ (fun hHeld => ?_)
        ·(try dsimp only); (repeat (first | with_reducible assumption | (refine below_row ?_ (by omega) _)))
        clear hK K
        (try simp only [pu, pn, si, s0, sn])
        refine wpAnyH_done (by kernel_rfl) ?_ _
        refine NoPanic.normal ?_
        generalize hW3 : World.setRow (World.setRow _ _ _) _ _ = v3
        have kx3 : At v3 (wr.heap.size) 56 #[.string M, .int .i64 e0, .int .i64 e1, .int .i64 e2, .slice sa p1 sc] := by rw [← hW3]; exact (setRow_other _ _ _ _ (by omega)).trans (setRow_heap _ _ _ _ _ (0, 0) nx)
        have ky3 : At v3 (wr.heap.size + 1) 56 #[.string N, .int .i64 f0, .int .i64 f1, .int .i64 f2, .slice ta p2 tc] := by rw [← hW3]; exact setRow_heap _ _ _ _ _ (0, 0) ((setRow_other _ _ _ _ (by omega)).trans ny)
        have H3 : Hid (Below w.heap.size w v3) := Lib.hid (by rw [← hW3]; exact below_row (below_row nH (by omega) _) (by omega) _)
        have x0 : v3.cell? ⟨wr.heap.size, 0, none⟩ = some (.string M) := kx3.c 0
        have x1 : v3.cell? ⟨wr.heap.size, 1, none⟩ = some (.int .i64 e0) := kx3.c 1
        have x2 : v3.cell? ⟨wr.heap.size, 2, none⟩ = some (.int .i64 e1) := kx3.c 2
        have x3 : v3.cell? ⟨wr.heap.size, 3, none⟩ = some (.int .i64 e2) := kx3.c 3
        have x4 : v3.cell? ⟨wr.heap.size, 4, none⟩ = some (.slice sa p1 sc) := kx3.c 4
        have y0 : v3.cell? ⟨wr.heap.size + 1, 0, none⟩ = some (.string N) := ky3.c 0
        have y1 : v3.cell? ⟨wr.heap.size + 1, 1, none⟩ = some (.int .i64 f0) := ky3.c 1
        have y2 : v3.cell? ⟨wr.heap.size + 1, 2, none⟩ = some (.int .i64 f1) := ky3.c 2
        have y3 : v3.cell? ⟨wr.heap.size + 1, 3, none⟩ = some (.int .i64 f2) := ky3.c 3
        have y4 : v3.cell? ⟨wr.heap.size + 1, 4, none⟩ = some (.slice ta p2 tc) := ky3.c 4
        have hX4 : Hid (∀ W, Below v3.heap.size v3 W → W.cell? ⟨wr.heap.size, 4, none⟩ = some (.slice sa p1 sc) ∧ W.cell? ⟨wr.heap.size + 1, 4, none⟩ = some (.slice ta p2 tc)) := Lib.hid fun W hb => ⟨(kx3.bel hb).c 4, (ky3.bel hb).c 4⟩
        clear hW3 nx ny nH hcl kx3 ky3 hHeld
        by_cases h0 : M = N
        ·subst h0
         by_cases h1 : e0 = f0
         ·subst h1
          by_cases h2 : e1 = f1
          ·subst h2
           by_cases h3 : e2 = f2
           ·subst h3
            by_cases h4 : p1 = p2
            ·subst h4
             have hfl : Hid (S ≠ T → decide (l1 = l2) = false) := Lib.hid fun h => hfail.out (fun hxy => h (congrArg (fun x : List UInt8 × List Int => x.2.drop 3) hxy))
             have hnx : Hid (S = T → l1.take (k + 1) = l2.take (k + 1)) := Lib.hid fun h => hnext.out (by rw [h])
             clear hnext hfail
             go_wp2_with fail
             go_loopg [8] p1 (fun g i wr => ∃ (j : Nat), j ≤ p1 ∧ i = .int .i64 (j : Int) ∧ Hid (g = p1 - j ∧ S.take j = T.take j) ∧ Hid (Below v3.heap.size v3 wr))
             case atStart => exact ⟨0, Nat.zero_le _, rfl, Lib.hid ⟨rfl, rfl⟩, Lib.hid (Below.refl _ _)⟩
             case round =>
              clear x0 x1 x2 x3 x4 y0 y1 y2 y3 y4
              obtain ⟨j, hj, rfl, hg, hB⟩ := hrel
              obtain ⟨x4, y4⟩ := hX4.out wr hB.out
              by_cases hlt : j < p1
              ·have j1 : j < S.length := by rw [n_S.out]; exact hlt
               have j2 : j < T.length := by rw [n_T.out]; exact hlt
               obtain ⟨b3, o3, rfl, z1, hb3⟩ := q_S.out.one (f := fun n => .int .i64 n) j j1
               obtain ⟨b4, o4, rfl, z2, hb4⟩ := q_T.out.one (f := fun n => .int .i64 n) j j2
               have hn1 : Hid (S[j] = T[j] → S.take (j + 1) = T.take (j + 1)) := Lib.hid fun h => take_eq hg.out.2 j1 j2 h
               have hf1 : Hid (S[j] ≠ T[j] → decide (l1 = l2) = false) := Lib.hid fun h => hfl.out fun e => h (by subst e; rfl)
               have hBw := Lib.hid (below_then H3.out hB.out)
               replace z1 := (hBw.out.cell hb3).trans z1
               replace z2 := (hBw.out.cell hb4).trans z2
               generalize S[j] = u at *
               generalize T[j] = v at *
               clear j1 j2 hb3 hb4
               by_cases hh : u = v
               ·subst hh
                have hN := Lib.hid (hn1.out rfl)
                clear hn1 hf1
                go_wp2_with fail
                go_quiet (fail)
                go_wp2_with fail
                go_roundg (p1 - (j + 1))
                case measure => have := hg.out.1; omega
                case rel => exact ⟨j + 1, by omega, by go_num, Lib.hid ⟨rfl, hN.out⟩, Lib.hid (below_drewN hB.out _)⟩
               ·have hs : (u == v) = false := by simpa using hh
                have hs2 : (u != v) = true := by simpa using hh
                have hF := Lib.hid (hf1.out hh)
                clear hn1 hf1
                go_wp2_with fail
                go_quiet (fail)
                go_wp2_with fail
                go_ret
                exact ⟨by rw [hF.out]; first | done | rfl, below_drewN hBw.out _⟩
              ·have hN := Lib.hid (hnx.out (take_all (by have := hg.out.2; rwa [show j = p1 by omega] at this) n_S.out n_T.out))
               have hBw := Lib.hid (below_then H3.out hB.out)
               clear hfl hnx
               go_wp2_with fail
               go_roundg (n - (k + 1))
               case measure => have := hgo.out.1; omega
               case rel => exact ⟨k + 1, by omega, by go_num, Lib.hid ⟨rfl, hN.out⟩, hBw⟩
            ·have hs : ((p1 : Int) == (p2 : Int)) = false := by simp; omega
             have hs2 : ((p1 : Int) != (p2 : Int)) = true := by simp; omega
             have hF := Lib.hid (hfail.out (fun hxy => h4 (by rw [← n_S.out, ← n_T.out]; exact congrArg (fun x : List UInt8 × List Int => (x.2.drop 3).length) hxy)))
             clear hnext hfail
             go_wp2_with fail
             go_ret
             exact ⟨by rw [hF.out]; first | done | rfl, H3.out⟩
           ·have hs : (e2 == f2) = false := by simpa using h3
            have hs2 : (e2 != f2) = true := by simpa using h3
            have hF := Lib.hid (hfail.out (fun hxy => h3 (congrArg (fun x : List UInt8 × List Int => x.2.getD 2 0) hxy)))
            clear hnext hfail
            go_wp2_with fail
            go_ret
            exact ⟨by rw [hF.out]; first | done | rfl, H3.out⟩
          ·have hs : (e1 == f1) = false := by simpa using h2
           have hs2 : (e1 != f1) = true := by simpa using h2
           have hF := Lib.hid (hfail.out (fun hxy => h2 (congrArg (fun x : List UInt8 × List Int => x.2.getD 1 0) hxy)))
           clear hnext hfail
           go_wp2_with fail
           go_ret
           exact ⟨by rw [hF.out]; first | done | rfl, H3.out⟩
         ·have hs : (e0 == f0) = false := by simpa using h1
          have hs2 : (e0 != f0) = true := by simpa using h1
          have hF := Lib.hid (hfail.out (fun hxy => h1 (congrArg (fun x : List UInt8 × List Int => x.2.getD 0 0) hxy)))
          clear hnext hfail
          go_wp2_with fail
          go_ret
          exact ⟨by rw [hF.out]; first | done | rfl, H3.out⟩
        ·have hs := str_ne h0
         have hF := Lib.hid (hfail.out (fun hxy => h0 (by_inj (congrArg Prod.fst hxy))))
         clear hnext hfail
         go_wp2_with fail
         go_ret
         exact ⟨by rw [hF.out]; first | done | rfl, H3.out⟩
       exact AllReadyH.nil
      exact AllReadyH.nil
     exact AllReadyH.nil
    refine AllReadyH.cons (i := 9) (gt rfl) (fun K hK => ?_) ?_
    ·go_simp
     refine hK.out _ _ ?_ (fun hHeld => ?_)
     ·(try dsimp only); (repeat (first | with_reducible assumption | with_reducible refine below_al ?_ _ | with_reducible refine below_drew ?_ | exact hBo.out))
     clear hK K
     (try simp only [pu, pn, si, s0, sn])
     refine wpAnyH_ready (rs := [8]) (by kernel_rfl) (by simp) ?_
     refine AllReadyH.cons (i := 8) (gt rfl) (fun K hK => ?_) ?_
     ·go_simp
      refine hK.out _ _ ?_ (fun hHeld => ?_)
      ·(try dsimp only); (repeat (first | with_reducible assumption | with_reducible refine below_al ?_ _ | with_reducible refine below_drew ?_ | exact hBo.out))
      clear hK K
      (try simp only [pu, pn, si, s0, sn])
      generalize hA2 : World.drew (World.alloc (World.alloc wr _) _) = A2
      have nx : At A2 (wr.heap.size + 1) 56 #[.string ⟨#[]⟩, .int .i64 0, .int .i64 0, .int .i64 0, .slice none 0 0] := by rw [← hA2]; exact (At.new' (by simp)).drw
      have ny : At A2 (wr.heap.size) 56 #[.string ⟨#[]⟩, .int .i64 0, .int .i64 0, .int .i64 0, .slice none 0 0] := by rw [← hA2]; exact ((At.new' (by simp)).al _).drw
      have nH : Below w.heap.size w A2 := by rw [← hA2]; exact below_drew (below_al (below_al hBo.out _) _)
      have hlW := hBo.out.size
      clear hA2
      refine wpAnyH_ready (rs := [10]) (by kernel_rfl) (by simp) ?_
      refine AllReadyH.cons (i := 10) (gt rfl) (fun K hK => ?_) ?_
      ·refine step_store_row rfl 56 (.tmp 6) (.tmp 23) rfl (wr.heap.size + 1) #[.string M, .int .i64 e0, .int .i64 e1, .int .i64 e2, .slice sa p1 sc] (by simp [Act.eval]) (by simp [Act.eval]) 56 #[.string ⟨#[]⟩, .int .i64 0, .int .i64 0, .int .i64 0, .slice none 0 0] (nx) (by kernel_rfl) (by rfl) (by simp [Value.oneCell']) ?_
       refine hK.out _ _ ?_ (fun hHeld => ?_)
       ·(try dsimp only); (repeat (first | with_reducible assumption | (refine below_row ?_ (by omega) _)))
       clear hK K
       (try simp only [pu, pn, si, s0, sn])
       refine wpAnyH_ready (rs := [11]) (by kernel_rfl) (by simp) ?_
       refine AllReadyH.cons (i := 11) (gt rfl) (fun K hK => ?_) ?_
       ·refine step_store_row rfl 56 (.tmp 7) (.tmp 27) rfl (wr.heap.size) #[.string N, .int .i64 f0, .int .i64 f1, .int .i64 f2, .slice ta p2 tc] (by simp [Act.eval]) (by simp [Act.eval]) 56 #[.string ⟨#[]⟩, .int .i64 0, .int .i64 0, .int .i64 0, .slice none 0 0] ((setRow_other _ _ _ _ (by omega)).trans ny) (by kernel_rfl) (by rfl) (by simp [Value.oneCell']) ?_
        refine hK.out _ _ ?_ (fun hHeld => ?_)
        ·(try dsimp only); (repeat (first | with_reducible assumption | (refine below_row ?_ (by omega) _)))
        clear hK K
        (try simp only [pu, pn, si, s0, sn])
        refine wpAnyH_done (by kernel_rfl) ?_ _
        refine NoPanic.normal ?_
        generalize hW3 : World.setRow (World.setRow _ _ _) _ _ = v3
        have kx3 : At v3 (wr.heap.size + 1) 56 #[.string M, .int .i64 e0, .int .i64 e1, .int .i64 e2, .slice sa p1 sc] := by rw [← hW3]; exact (setRow_other _ _ _ _ (by omega)).trans (setRow_heap _ _ _ _ _ (0, 0) nx)
        have ky3 : At v3 (wr.heap.size) 56 #[.string N, .int .i64 f0, .int .i64 f1, .int .i64 f2, .slice ta p2 tc] := by rw [← hW3]; exact setRow_heap _ _ _ _ _ (0, 0) ((setRow_other _ _ _ _ (by omega)).trans ny)
        have H3 : Hid (Below w.heap.size w v3) := Lib.hid (by rw [← hW3]; exact below_row (below_row nH (by omega) _) (by omega) _)
        have x0 : v3.cell? ⟨wr.heap.size + 1, 0, none⟩ = some (.string M) := kx3.c 0
        have x1 : v3.cell? ⟨wr.heap.size + 1, 1, none⟩ = some (.int .i64 e0) := kx3.c 1
        have x2 : v3.cell? ⟨wr.heap.size + 1, 2, none⟩ = some (.int .i64 e1) := kx3.c 2
        have x3 : v3.cell? ⟨wr.heap.size + 1, 3, none⟩ = some (.int .i64 e2) := kx3.c 3
        have x4 : v3.cell? ⟨wr.heap.size + 1, 4, none⟩ = some (.slice sa p1 sc) := kx3.c 4
        have y0 : v3.cell? ⟨wr.heap.size, 0, none⟩ = some (.string N) := ky3.c 0
        have y1 : v3.cell? ⟨wr.heap.size, 1, none⟩ = some (.int .i64 f0) := ky3.c 1
        have y2 : v3.cell? ⟨wr.heap.size, 2, none⟩ = some (.int .i64 f1) := ky3.c 2
        have y3 : v3.cell? ⟨wr.heap.size, 3, none⟩ = some (.int .i64 f2) := ky3.c 3
        have y4 : v3.cell? ⟨wr.heap.size, 4, none⟩ = some (.slice ta p2 tc) := ky3.c 4
        have hX4 : Hid (∀ W, Below v3.heap.size v3 W → W.cell? ⟨wr.heap.size + 1, 4, none⟩ = some (.slice sa p1 sc) ∧ W.cell? ⟨wr.heap.size, 4, none⟩ = some (.slice ta p2 tc)) := Lib.hid fun W hb => ⟨(kx3.bel hb).c 4, (ky3.bel hb).c 4⟩
        clear hW3 nx ny nH hcl kx3 ky3 hHeld
        by_cases h0 : M = N
        ·subst h0
         by_cases h1 : e0 = f0
         ·subst h1
          by_cases h2 : e1 = f1
          ·subst h2
           by_cases h3 : e2 = f2
           ·subst h3
            by_cases h4 : p1 = p2
            ·subst h4
             have hfl : Hid (S ≠ T → decide (l1 = l2) = false) := Lib.hid fun h => hfail.out (fun hxy => h (congrArg (fun x : List UInt8 × List Int => x.2.drop 3) hxy))
             have hnx : Hid (S = T → l1.take (k + 1) = l2.take (k + 1)) := Lib.hid fun h => hnext.out (by rw [h])
             clear hnext hfail
             go_wp2_with fail
             go_loopg [8] p1 (fun g i wr => ∃ (j : Nat), j ≤ p1 ∧ i = .int .i64 (j : Int) ∧ Hid (g = p1 - j ∧ S.take j = T.take j) ∧ Hid (Below v3.heap.size v3 wr))
             case atStart => exact ⟨0, Nat.zero_le _, rfl, Lib.hid ⟨rfl, rfl⟩, Lib.hid (Below.refl _ _)⟩
             case round =>
              clear x0 x1 x2 x3 x4 y0 y1 y2 y3 y4
              obtain ⟨j, hj, rfl, hg, hB⟩ := hrel
              obtain ⟨x4, y4⟩ := hX4.out wr hB.out
              by_cases hlt : j < p1
              ·have j1 : j < S.length := by rw [n_S.out]; exact hlt
               have j2 : j < T.length := by rw [n_T.out]; exact hlt
               obtain ⟨b3, o3, rfl, z1, hb3⟩ := q_S.out.one (f := fun n => .int .i64 n) j j1
               obtain ⟨b4, o4, rfl, z2, hb4⟩ := q_T.out.one (f := fun n => .int .i64 n) j j2
               have hn1 : Hid (S[j] = T[j] → S.take (j + 1) = T.take (j + 1)) := Lib.hid fun h => take_eq hg.out.2 j1 j2 h
               have hf1 : Hid (S[j] ≠ T[j] → decide (l1 = l2) = false) := Lib.hid fun h => hfl.out fun e => h (by subst e; rfl)
               have hBw := Lib.hid (below_then H3.out hB.out)
               replace z1 := (hBw.out.cell hb3).trans z1
               replace z2 := (hBw.out.cell hb4).trans z2
               generalize S[j] = u at *
               generalize T[j] = v at *
               clear j1 j2 hb3 hb4
               by_cases hh : u = v
               ·subst hh
                have hN := Lib.hid (hn1.out rfl)
                clear hn1 hf1
                go_wp2_with fail
                go_quiet (fail)
                go_wp2_with fail
                go_roundg (p1 - (j + 1))
                case measure => have := hg.out.1; omega
                case rel => exact ⟨j + 1, by omega, by go_num, Lib.hid ⟨rfl, hN.out⟩, Lib.hid (below_drewN hB.out _)⟩
               ·have hs : (u == v) = false := by simpa using hh
                have hs2 : (u != v) = true := by simpa using hh
                have hF := Lib.hid (hf1.out hh)
                clear hn1 hf1
                go_wp2_with fail
                go_quiet (fail)
                go_wp2_with fail
                go_ret
                exact ⟨by rw [hF.out]; first | done | rfl, below_drewN hBw.out _⟩
              ·have hN := Lib.hid (hnx.out (take_all (by have := hg.out.2; rwa [show j = p1 by omega] at this) n_S.out n_T.out))
               have hBw := Lib.hid (below_then H3.out hB.out)
               clear hfl hnx
               go_wp2_with fail
               go_roundg (n - (k + 1))
               case measure => have := hgo.out.1; omega
               case rel => exact ⟨k + 1, by omega, by go_num, Lib.hid ⟨rfl, hN.out⟩, hBw⟩
            ·have hs : ((p1 : Int) == (p2 : Int)) = false := by simp; omega
             have hs2 : ((p1 : Int) != (p2 : Int)) = true := by simp; omega
             have hF := Lib.hid (hfail.out (fun hxy => h4 (by rw [← n_S.out, ← n_T.out]; exact congrArg (fun x : List UInt8 × List Int => (x.2.drop 3).length) hxy)))
             clear hnext hfail
             go_wp2_with fail
             go_ret
             exact ⟨by rw [hF.out]; first | done | rfl, H3.out⟩
           ·have hs : (e2 == f2) = false := by simpa using h3
            have hs2 : (e2 != f2) = true := by simpa using h3
            have hF := Lib.hid (hfail.out (fun hxy => h3 (congrArg (fun x : List UInt8 × List Int => x.2.getD 2 0) hxy)))
            clear hnext hfail
            go_wp2_with fail
            go_ret
            exact ⟨by rw [hF.out]; first | done | rfl, H3.out⟩
          ·have hs : (e1 == f1) = false := by simpa using h2
           have hs2 : (e1 != f1) = true := by simpa using h2
           have hF := Lib.hid (hfail.out (fun hxy => h2 (congrArg (fun x : List UInt8 × List Int => x.2.getD 1 0) hxy)))
           clear hnext hfail
           go_wp2_with fail
           go_ret
           exact ⟨by rw [hF.out]; first | done | rfl, H3.out⟩
         ·have hs : (e0 == f0) = false := by simpa using h1
          have hs2 : (e0 != f0) = true := by simpa using h1
          have hF := Lib.hid (hfail.out (fun hxy => h1 (congrArg (fun x : List UInt8 × List Int => x.2.getD 0 0) hxy)))
          clear hnext hfail
          go_wp2_with fail
          go_ret
          exact ⟨by rw [hF.out]; first | done | rfl, H3.out⟩
        ·have hs := str_ne h0
         have hF := Lib.hid (hfail.out (fun hxy => h0 (by_inj (congrArg Prod.fst hxy))))
         clear hnext hfail
         go_wp2_with fail
         go_ret
         exact ⟨by rw [hF.out]; first | done | rfl, H3.out⟩
       exact AllReadyH.nil
      exact AllReadyH.nil
     exact AllReadyH.nil
    exact AllReadyH.nil
   ·have hE : Hid (decide (l1 = l2) = true) := Lib.hid (decide_eq_true (take_all (by have := hgo.out.2; rwa [show k = n by omega] at this) hn.out hn2.out))
    go_wp2_with fail
    go_ret
    exact ⟨by rw [hE.out]; first | done | rfl, hBo.out⟩
end Go.Proofs.YtccakklnbhcbdaaGreatDoor
