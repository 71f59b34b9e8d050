/- shape: valid bars, their legs. -/
import Derived.Test.YtjlkbmaigcgnbaaDoorBJ04
import Derived.Test.YtjlkbmaigcgnbaaDoorBJ12
import Derived.Test.YtjlkbmaigcgnbaaDoorBJ13
set_option linter.unusedVariables false
namespace Go.Proofs.YtjlkbmaigcgnbaaDoor
open Go.ChangeShapes Go.WideShapes Go.ChangeAt Go.RowKit
theorem intV_flat : ∀ l : List Int, intV l = l.flatMap encZ
  | [] => rfl
  | a :: l => by
    rw [List.flatMap_cons, ← intV_flat l]
    rfl
theorem own_isI {w : World} {base : Nat} {v : Value} {l : List Int} (h : w.ownsRow base 3 1 v l.length (intV l)) : IsI l v w := by
  rw [intV_flat] at h
  have h2 : Row w 3 1 encZ v l := ⟨h.1, h.2.imp id fun ⟨g, cap, cur, h1, _, h3⟩ => ⟨g, cap, cur, h1, Nat.zero_le _, h3⟩⟩
  exact row_isI h2
def barC (b : Br) (v : Value) : Array Value := #[.string b.mark, .int .i64 b.size, .int .i64 b.count, .int .i64 b.code, v]
theorem dimsOk_cons (r n : Int) (l : List Int) : dimsOk r (n :: l) = (decide (1 ≤ n) && decide (n ≤ r) && dimsOk (r - n) l) := rfl
set_option maxRecDepth 100000 in
set_option maxHeartbeats 1000000 in
theorem barV_any (b : Br) (v : Value) (w : World) (hm : b.mark.size ≤ 1000000) (hv : IsI b.dims v w) : Calls Tryd.prog 36 #[.agg (barC b v)] w fun e w' => e = .returned (.bool (barV b)) ∧ Below w.heap.size w w' := by
  obtain ⟨R, hR⟩ : ∃ R, barV b = R := ⟨_, rfl⟩
  rw [hR]
  unfold barV at hR
  unfold barC
  obtain ⟨mk, sz, ct, c, l⟩ := b
  dsimp only at *
  obtain ⟨a, cc, rfl, h2, h3, h4⟩ := hv
  have ha := Lib.hid h4
  clear h4
  have HD := Lib.hid (fun w => dims_any c w)
  have HS := Lib.hid (fun w => size_any sz w)
  have HN := Lib.hid (fun w => isName_any mk (by omega) w)
  obtain ⟨D, hD⟩ : ∃ D, dimsN c = D := ⟨_, rfl⟩
  obtain ⟨n, hn⟩ : ∃ n, l.length = n := ⟨_, rfl⟩
  rw [hD] at hR HD
  rw [hn] at h2 hR ⊢
  replace hn := Lib.hid hn
  clear hD
  generalize sizD sz = sB at *
  generalize nameB (by_ mk) = nB at *
  go_enter Tryd.func36, Tryd.ntmps36
  by_cases q0 : 0 < D
  rotate_left
  · have hE : Hid (R = false) := Lib.hid (by rw [← hR, decide_eq_false q0]; rfl)
    simp only [if_neg q0] at HD
    clear hR q0 HS HN
    go_wp2_with fail
    refine (HD.out _).mono ?_
    rintro e w1 ⟨rfl, hb⟩
    go_wp2_with fail
    go_ret
    exact ⟨by rw [hE.out]; rfl, below_then (below_al (Below.refl _ _) _) hb⟩
  simp only [if_pos q0] at HD
  rw [decide_eq_true q0, Bool.true_and] at hR
  go_wp2_with fail
  generalize hWW : World.alloc _ _ = WW
  have kx : At WW w.heap.size 50 #[.string mk, .int .i64 sz, .int .i64 ct, .int .i64 c, .slice a n cc] := by rw [← hWW]; exact At.new' rfl
  have HB : Below w.heap.size w WW := by rw [← hWW]; exact below_al (Below.refl _ _) _
  clear hWW
  refine (HD.out _).mono ?_
  rintro e w1 ⟨rfl, hb⟩
  replace HB := below_then HB hb
  replace kx := kx.bel hb
  clear hb HD
  have x0 : w1.cell? ⟨w.heap.size, 0, none⟩ = some (.string mk) := kx.c 0
  go_wp2_with fail
  refine (HN.out _).mono ?_
  rintro e w2 ⟨rfl, rfl⟩
  clear HN
  rcases nB with _ | _
  · have hE : Hid (R = false) := Lib.hid (by rw [← hR]; rfl)
    clear hR HS
    go_wp2_with fail
    go_ret
    exact ⟨by rw [hE.out]; rfl, HB⟩
  rw [Bool.true_and] at hR
  have x1 : w1.cell? ⟨w.heap.size, 1, none⟩ = some (.int .i64 sz) := kx.c 1
  go_wp2_with fail
  refine (HS.out _).mono ?_
  rintro e w2 ⟨rfl, hb⟩
  replace HB := below_then HB hb
  replace kx := kx.bel hb
  clear hb HS x0 x1
  rcases sB with _ | _
  · have hE : Hid (R = false) := Lib.hid (by rw [← hR]; rfl)
    clear hR
    go_wp2_with fail
    go_ret
    exact ⟨by rw [hE.out]; rfl, HB⟩
  rw [Bool.true_and] at hR
  have x2 : w2.cell? ⟨w.heap.size, 2, none⟩ = some (.int .i64 ct) := kx.c 2
  by_cases q1 : ct < 1
  · have hE : Hid (R = false) := Lib.hid (by rw [← hR, decide_eq_false (by omega)]; rfl)
    have g1 : decide (ct < 1) = true := decide_eq_true q1
    clear hR q1
    go_wp2_with fail
    go_ret
    exact ⟨by rw [hE.out]; rfl, HB⟩
  have g1 : decide (ct < 1) = false := decide_eq_false q1
  rw [show decide (1 ≤ ct) = true from decide_eq_true (by omega), Bool.true_and] at hR
  by_cases q2 : 1000 < ct
  · have hE : Hid (R = false) := Lib.hid (by rw [← hR, decide_eq_false (by omega)]; rfl)
    have g2 : decide (1000 < ct) = true := decide_eq_true q2
    clear hR q1 q2
    go_wp2_with fail
    go_ret
    exact ⟨by rw [hE.out]; rfl, HB⟩
  have g2 : decide (1000 < ct) = false := decide_eq_false q2
  rw [show decide (ct ≤ 1000) = true from decide_eq_true (by omega), Bool.true_and] at hR
  have x4 : w2.cell? ⟨w.heap.size, 4, none⟩ = some (.slice a n cc) := kx.c 4
  by_cases q3 : (n : Int) = D
  rotate_left
  · have hE : Hid (R = false) := Lib.hid (by rw [← hR, decide_eq_false q3]; rfl)
    have g3 : ((n : Int) != D) = true := by simp [q3]
    clear hR q1 q2 q3
    go_wp2_with fail
    go_ret
    exact ⟨by rw [hE.out]; rfl, HB⟩
  have g3 : ((n : Int) != D) = false := by simp [q3]
  rw [decide_eq_true q3, Bool.true_and] at hR
  clear q0 q1 q2 q3
  replace hR := Lib.hid hR
  go_wp2_with fail
  go_loopg [48, 5] n (fun g i u wr => ∃ (k : Nat) (r : Int), k ≤ n ∧ i = .int .i64 (k : Int) ∧ u = .int .i64 r ∧ (0 ≤ r ∧ r ≤ 262144) ∧ Hid (g = n - k ∧ dimsOk r (l.drop k) = R) ∧ w2 = wr)
  case atStart => exact ⟨0, 262144, Nat.zero_le _, rfl, rfl, by decide, Lib.hid ⟨rfl, hR.out⟩, rfl⟩
  case round =>
    obtain ⟨k, r, hk, rfl, rfl, hrb, hr, rfl⟩ := hrel
    by_cases hlt : k < n
    · have hkl : Hid (k < l.length) := Lib.hid (by rw [hn.out]; exact hlt)
      obtain ⟨bb, off, rfl, c0, hb⟩ := (show RowAt (fun x => [Value.int .i64 x]) 1 w2.heap.size w2 a l from (ha.out.bel (Nat.le_refl _) HB).mono HB.size).one k hkl.out
      have hnx := Lib.hid (show dimsOk r (l.drop k) = (decide (1 ≤ l[k]'hkl.out) && decide (l[k]'hkl.out ≤ r) && dimsOk (r - l[k]'hkl.out) (l.drop (k + 1))) by rw [List.drop_eq_getElem_cons hkl.out, dimsOk_cons])
      obtain ⟨y, hy⟩ : ∃ y, l[k]'hkl.out = y := ⟨_, rfl⟩
      rw [hy] at c0 hnx
      clear hb hy
      by_cases q4 : y < 1
      · have hE : Hid (R = false) := Lib.hid (by rw [← hr.out.2, hnx.out, decide_eq_false (by omega)]; rfl)
        have g4 : decide (y < 1) = true := decide_eq_true q4
        clear q4
        go_wp2_with fail
        go_ret
        exact ⟨by rw [hE.out]; rfl, HB⟩
      have g4 : decide (y < 1) = false := decide_eq_false q4
      by_cases q5 : r < y
      · have hE : Hid (R = false) := Lib.hid (by rw [← hr.out.2, hnx.out, decide_eq_true (show 1 ≤ y by omega), decide_eq_false (show ¬ y ≤ r by omega)]; rfl)
        have g5 : decide (r < y) = true := decide_eq_true q5
        clear q4 q5
        go_wp2_with fail
        go_ret
        exact ⟨by rw [hE.out]; rfl, HB⟩
      have g5 : decide (r < y) = false := decide_eq_false q5
      obtain ⟨r2, hr2⟩ : ∃ r2, r - y = r2 := ⟨_, rfl⟩
      have hst : Hid (dimsOk r2 (l.drop (k + 1)) = R) := Lib.hid (by rw [← hr.out.2, hnx.out, decide_eq_true (show 1 ≤ y by omega), decide_eq_true (show y ≤ r by omega), hr2]; rfl)
      have w1 : IntKind.i64.wrap (r - y) = r2 := by rw [hr2, IntWalk.i64_in _ (by omega)]
      have br : 0 ≤ r2 ∧ r2 ≤ 262144 := by omega
      clear hr2 q4 q5
      go_wp2_with fail
      go_roundg (n - (k + 1))
      case measure => have := hr.out.1; omega
      case rel => exact ⟨k + 1, r2, by omega, by go_num, rfl, br, Lib.hid ⟨rfl, hst.out⟩, rfl⟩
    · have hE : Hid (R = true) := Lib.hid (by
        have := hr.out.2
        rw [List.drop_eq_nil_of_le (by have := hn.out; omega)] at this
        exact this.symm)
      go_wp2_with fail
      go_ret
      exact ⟨by rw [hE.out]; rfl, HB⟩
set_option maxRecDepth 100000 in
set_option maxHeartbeats 1000000 in
theorem legs2_any (b : Br) (v : Value) (w : World) (hm : b.mark.size ≤ 1000000) (hv : IsI b.dims v w) (hok : barV b = true) : Calls Tryd.prog 76 #[.agg (barC b v)] w fun e w' => (∃ v', e = .returned (.tuple #[v', .int .i64 0]) ∧ IsI (legL b) v' w') ∧ Below w.heap.size w w' := by
  obtain ⟨i0, hi, hz0, hz1, hz2⟩ := info_parts infoInt
  have HV := Lib.hid (fun W (hW : Below w.heap.size w W) => barV_any b v W hm (hv.up hW))
  have hL := barV_legs hok
  rw [hok] at HV
  unfold barC at HV ⊢
  obtain ⟨G, hG⟩ : ∃ G, legL b = G := ⟨_, rfl⟩
  rw [hG]
  unfold legL at hG
  have hfew := hL.few
  have hdim := hL.dim
  unfold legL at hfew
  rw [List.length_map] at hfew
  obtain ⟨mk, sz, ct, c, l⟩ := b
  dsimp only at *
  obtain ⟨a, cc, rfl, h2, h3, h4⟩ := hv
  have ha := Lib.hid h4
  have HL := Lib.hid (fun w => legs_any c w)
  obtain ⟨n, hn⟩ : ∃ n, l.length = n := ⟨_, rfl⟩
  rw [hn] at h2 HV ⊢
  generalize legsL c = L at *
  replace hG := Lib.hid hG
  replace hdim := Lib.hid hdim
  replace hn := Lib.hid hn
  clear h4 hok hL
  go_enter Tryd.func76, Tryd.ntmps76
  go_wp2_with fail
  generalize hWW : World.alloc _ _ = WW
  have kx : At WW w.heap.size 50 #[.string mk, .int .i64 sz, .int .i64 ct, .int .i64 c, .slice a n cc] := by rw [← hWW]; exact At.new' rfl
  have HB : Below w.heap.size w WW := by rw [← hWW]; exact below_al (Below.refl _ _) _
  clear hWW
  refine (HV.out _ HB).mono ?_
  rintro e w1 ⟨rfl, hb⟩
  replace HB := below_then HB hb
  replace kx := kx.bel hb
  clear hb HV
  have x3 : w1.cell? ⟨w.heap.size, 3, none⟩ = some (.int .i64 c) := kx.c 3
  go_wp2_with fail
  refine (HL.out _).mono ?_
  rintro e w2 ⟨⟨v', rfl, a2, c2, rfl, k2, k3, k4⟩, hb⟩
  replace HB := below_then HB hb
  replace kx := kx.bel hb
  obtain ⟨m, hm2⟩ : ∃ m, L.length = m := ⟨_, rfl⟩
  rw [hm2] at k2 hfew ⊢
  replace hm2 := Lib.hid hm2
  have ha2 := Lib.hid k4
  clear hb HL x3 k4
  go_wp2_with fail
  go_loopg [14, 4] m (fun g i u wr => ∃ (k : Nat) (u0 : Value), u0 = u ∧ k ≤ m ∧ i = .int .i64 (k : Int) ∧ Hid (g = m - k) ∧ Below w2.heap.size w2 wr ∧ Hid (wr.ownsRow w2.heap.size 3 1 u k (intV (G.take k))))
  case atStart => exact ⟨0, _, rfl, Nat.zero_le _, rfl, Lib.hid rfl, Below.refl _ _, Lib.hid (World.ownsRow_nil _ _ _ _)⟩
  case round =>
    obtain ⟨k, u, rfl, hk, rfl, hr, HB2, ho⟩ := hrel
    by_cases hlt : k < m
    · have hkl : Hid (k < L.length) := Lib.hid (by rw [hm2.out]; exact hlt)
      obtain ⟨bb, off, rfl, c0, c1⟩ := (ha2.out.bel (Nat.le_refl _) HB2).leg k hkl.out
      have hd := hdim.out _ (List.getElem_mem hkl.out)
      have hgk : Hid (G.take (k + 1) = G.take k ++ [l.getD (L[k]'hkl.out).1 0]) := Lib.hid (by
        have h1 : k < G.length := by rw [← hG.out, List.length_map]; exact hkl.out
        rw [List.take_succ_eq_append_getElem h1]
        congr 2
        simp only [← hG.out, List.getElem_map])
      obtain ⟨x, hx⟩ : ∃ x, L[k]'hkl.out = x := ⟨_, rfl⟩
      rw [hx] at c0 c1 hd hgk
      clear hx
      obtain ⟨d, y⟩ := x
      dsimp only at c0 c1 hd hgk
      obtain ⟨b3, o3, rfl, e0, hb3⟩ := (show RowAt (fun x => [Value.int .i64 x]) 1 w2.heap.size wr a l from ((ha.out.bel (Nat.le_refl _) HB).mono HB.size).bel (Nat.le_refl _) HB2).one d hd
      rw [show l.getD d 0 = l[d] by rw [List.getD_eq_getElem?_getD, List.getElem?_eq_getElem hd]; rfl] at hgk
      obtain ⟨z, hz⟩ : ∃ z, l[d] = z := ⟨_, rfl⟩
      rw [hz] at e0 hgk
      clear hz hb3
      have hdn : d < n := by rw [← hn.out]; exact hd
      have kx4 : wr.cell? ⟨w.heap.size, 4, none⟩ = some (.slice (some ⟨b3, o3, none⟩) n cc) := (kx.bel HB2).c 4
      go_upto_region 7 with fail
      generalize hWW : World.alloc _ _ = W4
      have ky : At W4 wr.heap.size 121 #[.int .i64 (d : Int), .int .u8 (y : Int)] := by rw [← hWW]; exact At.new' rfl
      have hbW : Below wr.heap.size wr W4 := by rw [← hWW]; exact below_al (Below.refl _ _) _
      have q0 : W4.cell? ⟨wr.heap.size, 0, none⟩ = some (.int .i64 (d : Int)) := ky.c 0
      have ho4 := Lib.hid (World.ownsRow_up ho.out hbW)
      have kx5 := cell_up hbW kx4
      have e5 := cell_up hbW e0
      have HB4 := below_then HB2 hbW
      clear hWW hbW c0 c1 kx4 e0 ho
      go_wp2_with (at_builtin; refine wpList_append_own_at _ rfl _ _ 42 rfl w2.heap.size 3 i0 (.int .i64 0) 1 8 Tryd.underlying42 hi hz0 hz1 hz2 rfl (by decide) _ _ _ rfl (World.ownsRow.alloc ho4.out _) ⟨W4.heap.size, 0, none⟩ 1 1 [.int .i64 z] rfl rfl (cell_one_new _ _ _) (by intro u hu; simp at hu; subst hu; rfl) (by unfold maxLen; omega) (by omega) (by have := HB4.size; simp; omega) ?_)
      intro v' w5 ho1 hg1 hnil hloc
      have hb1 : Below w2.heap.size w2 w5 := below_grown HB4 ((World.grownBy_alloc _ _ _).trans hg1) (fun b hb => (own_lt ho4.out hb).2)
      have ho2 : Hid (w5.ownsRow w2.heap.size 3 1 v' (k + 1) (intV (G.take (k + 1)))) := Lib.hid (by
        rw [hgk.out]
        unfold intV
        rw [List.map_append]
        exact ho1)
      clear hg1 hnil hloc ho1 kx5 e5 q0 ho4
      go_wp2_with fail
      go_roundg (m - (k + 1))
      case measure => have := hr.out; omega
      case rel => exact ⟨k + 1, _, rfl, by omega, by go_num, Lib.hid rfl, hb1, ho2⟩
    · have hE : Hid (G.take k = G ∧ k = G.length) := Lib.hid (by
        have h1 : G.length = m := by rw [← hG.out, List.length_map]; exact hm2.out
        have h2 : k = m := by omega
        subst h2
        exact ⟨List.take_of_length_le (by omega), h1.symm⟩)
      go_wp2_with fail
      exact bodyPost_ret (v := .tuple #[u, .int .i64 0]) (by simp [results, Tryd.results76, go_sem]) rfl ⟨⟨u, rfl, own_isI (by rw [hE.out.1, hE.out.2] at ho; exact ho.out)⟩, below_then HB HB2⟩
end Go.Proofs.YtjlkbmaigcgnbaaDoor
