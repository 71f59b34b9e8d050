/- bend: arcs, allowances, developed lengths, cutting lengths. -/
import Derived.Test.YtjlkbmaigcgnbaaDoorBJ14
set_option linter.unusedVariables false
namespace Go.Proofs.YtjlkbmaigcgnbaaDoor
open Go.ChangeShapes Go.WideShapes Go.ChangeAt Go.RowKit
set_option maxRecDepth 100000 in
set_option maxHeartbeats 1000000 in
theorem up_any (n d : Int) (hn : 0 ≤ n ∧ n ≤ 1000000000000) (hd : 1 ≤ d ∧ d ≤ 1000000) (w : World) : Calls Tryd.prog 62 #[.int .i64 n, .int .i64 d] w fun e w' => e = .returned (.int .i64 ((n + d - 1) / d)) ∧ Below w.heap.size w w' := by
  obtain ⟨A, hA⟩ : ∃ A, n + d = A := ⟨_, rfl⟩
  obtain ⟨C, hC⟩ : ∃ C, A - 1 = C := ⟨_, rfl⟩
  obtain ⟨R, hR⟩ : ∃ R, (n + d - 1) / d = R := ⟨_, rfl⟩
  have hR2 : C.tdiv d = R := by rw [← hR, ← hC, ← hA, Int.tdiv_eq_ediv_of_nonneg (by omega)]
  have bR : 0 ≤ R ∧ R ≤ 1000001000000 := by
    rw [← hR]
    refine ⟨Int.ediv_nonneg (by omega) (by omega), ?_⟩
    have := Int.ediv_le_self d (show 0 ≤ n + d - 1 by omega)
    omega
  have w1 : IntKind.i64.wrap (n + d) = A := by rw [hA, IntWalk.i64_in _ (by omega)]
  have w2 : IntKind.i64.wrap (A - 1) = C := by rw [hC, IntWalk.i64_in _ (by omega)]
  have w3 : IntKind.i64.wrap R = R := IntWalk.i64_in _ (by omega)
  have d0 : (d == 0) = false := by simp; omega
  have d1 : ¬ d = 0 := by omega
  rw [hR]
  clear hR hC hA bR hn hd
  go_enter Tryd.func62, Tryd.ntmps62
  go_wp2_with fail
  go_ret
  exact ⟨rfl, Below.refl _ _⟩
def spC (lo hi : Int) : Value := .agg #[.int .i64 lo, .int .i64 hi]
theorem bendR_le {d : Int} (h : sizD d = true) : 1 ≤ bendR d ∧ bendR d ≤ 160 := by
  rcases sizD_or h with rfl | rfl | rfl | rfl | rfl | rfl | rfl | rfl | rfl <;> decide
set_option maxRecDepth 100000 in
set_option maxHeartbeats 1000000 in
theorem arc_any (d : Int) (hd : sizD d = true) (w : World) : Calls Tryd.prog 85 #[.int .i64 d] w fun e w' => e = .returned (.tuple #[spC (arcLo d) (arcHi d), .int .i64 0]) ∧ Below w.heap.size w w' := by
  have hb := bendR_le hd
  have HBd := Lib.hid (fun w => bend_any d hd w)
  obtain ⟨L, hL⟩ : ∃ L, arcLo d = L := ⟨_, rfl⟩
  obtain ⟨H, hH⟩ : ∃ H, arcHi d = H := ⟨_, rfl⟩
  rw [hL, hH]
  unfold arcLo at hL
  unfold arcHi at hH
  generalize bendR d = r at *
  obtain ⟨A, hA⟩ : ∃ A, 500 * r = A := ⟨_, rfl⟩
  rw [hA] at hL hH
  obtain ⟨C, hC⟩ : ∃ C, A * 333 = C := ⟨_, rfl⟩
  obtain ⟨D, hD⟩ : ∃ D, A * 355 = D := ⟨_, rfl⟩
  rw [hC] at hL
  rw [hD] at hH
  have w1 : IntKind.i64.wrap (500 * r) = A := by rw [hA, IntWalk.i64_in _ (by omega)]
  have w2 : IntKind.i64.wrap (A * 333) = C := by rw [hC, IntWalk.i64_in _ (by omega)]
  have w3 : IntKind.i64.wrap (A * 355) = D := by rw [hD, IntWalk.i64_in _ (by omega)]
  have hL2 : C.tdiv 106 = L := by rw [← hL, Int.tdiv_eq_ediv_of_nonneg (by omega)]
  have w4 : IntKind.i64.wrap L = L := IntWalk.i64_in _ (by omega)
  have HU := Lib.hid (fun w => up_any D 113 (by omega) (by decide) w)
  rw [show D + 113 - 1 = D + 112 by omega, hH] at HU
  clear hL hH hA hC hD hb hd
  unfold spC
  go_enter Tryd.func85, Tryd.ntmps85
  go_wp2_with fail
  generalize hWW : World.alloc _ _ = WW
  have kx : At WW w.heap.size 106 #[.int .i64 0, .int .i64 0] := by rw [← hWW]; exact At.new' rfl
  have HB : Below w.heap.size w WW := by rw [← hWW]; exact below_al (Below.refl _ _) _
  clear hWW
  refine (HBd.out _).mono ?_
  rintro e w2 ⟨rfl, hb⟩
  replace HB := below_then HB hb
  replace kx := kx.bel hb
  clear hb HBd
  go_wp2_with fail
  refine (HU.out _).mono ?_
  rintro e w3 ⟨rfl, hb⟩
  replace HB := below_then HB hb
  replace kx := kx.bel hb
  clear hb HU
  have Lkx := kx.lt
  obtain ⟨k0, k1, k2, k3⟩ := kx.two
  go_wp2_with fail
  exact bodyPost_ret (v := .tuple #[.agg #[.int .i64 L, .int .i64 H], .int .i64 0]) (by simp [results, Tryd.results85, go_sem, *]) rfl ⟨rfl, by repeat (first | with_reducible assumption | with_reducible exact Below.refl _ _ | with_reducible refine below_set ?_ (by dsimp only; omega) _)⟩
set_option maxRecDepth 100000 in
set_option maxHeartbeats 1000000 in
theorem allow_any (d : Int) (hd : sizD d = true) (w : World) : Calls Tryd.prog 77 #[.int .i64 d] w fun e w' => e = .returned (.tuple #[spC (allLo d) (allHi d), .int .i64 0]) ∧ Below w.heap.size w w' := by
  have hb := bendR_le hd
  have HBd := Lib.hid (fun w => bend_any d hd w)
  have HA := Lib.hid (fun w => arc_any d hd w)
  obtain ⟨L, hL⟩ : ∃ L, allLo d = L := ⟨_, rfl⟩
  obtain ⟨H, hH⟩ : ∃ H, allHi d = H := ⟨_, rfl⟩
  rw [hL, hH]
  have h1 : 0 ≤ arcLo d ∧ arcLo d ≤ 1000000 ∧ 0 ≤ arcHi d ∧ arcHi d ≤ 1000000 := by
    rcases sizD_or hd with rfl | rfl | rfl | rfl | rfl | rfl | rfl | rfl | rfl <;> decide
  unfold allLo at hL
  unfold allHi at hH
  generalize bendR d = r at *
  generalize arcLo d = x at *
  generalize arcHi d = y at *
  obtain ⟨A, hA⟩ : ∃ A, 2000 * r = A := ⟨_, rfl⟩
  rw [hA] at hL hH
  have w1 : IntKind.i64.wrap (2000 * r) = A := by rw [hA, IntWalk.i64_in _ (by omega)]
  have w2 : IntKind.i64.wrap (A - y) = L := by rw [hL, IntWalk.i64_in _ (by omega)]
  have w3 : IntKind.i64.wrap (A - x) = H := by rw [hH, IntWalk.i64_in _ (by omega)]
  clear hL hH hA hb hd h1
  unfold spC at *
  go_enter Tryd.func77, Tryd.ntmps77
  go_wp2_with fail
  generalize hWW : World.alloc _ _ = WW
  have kx : At WW w.heap.size 106 #[.int .i64 0, .int .i64 0] := by rw [← hWW]; exact At.new' rfl
  have HB : Below w.heap.size w WW := by rw [← hWW]; exact below_al (Below.refl _ _) _
  clear hWW
  refine (HA.out _).mono ?_
  rintro e w2 ⟨rfl, hb⟩
  replace HB := below_then HB hb
  replace kx := kx.bel hb
  clear hb HA
  go_wp2_with fail
  generalize hWW : World.alloc _ _ = W3
  have ky : At W3 w2.heap.size 106 #[.int .i64 x, .int .i64 y] := by rw [← hWW]; exact At.new' rfl
  have hbW : Below w2.heap.size w2 W3 := by rw [← hWW]; exact below_al (Below.refl _ _) _
  replace HB := below_then HB hbW
  replace kx := kx.bel hbW
  clear hWW hbW
  refine (HBd.out _).mono ?_
  rintro e w4 ⟨rfl, hb⟩
  replace HB := below_then HB hb
  replace kx := kx.bel hb
  replace ky := ky.bel hb
  clear hb HBd
  have Lkx := kx.lt
  obtain ⟨k0, k1, k2, k3⟩ := kx.two
  have y0 : w4.cell? ⟨w2.heap.size, 0, none⟩ = some (.int .i64 x) := ky.c 0
  have y1 : w4.cell? ⟨w2.heap.size, 1, none⟩ = some (.int .i64 y) := ky.c 1
  go_wp2_with fail
  exact bodyPost_ret (v := .tuple #[.agg #[.int .i64 L, .int .i64 H], .int .i64 0]) (by simp [results, Tryd.results77, go_sem, *]) rfl ⟨rfl, (by repeat (first | with_reducible assumption | with_reducible exact Below.refl _ _ | with_reducible refine below_set ?_ (by dsimp only; omega) _ | with_reducible refine below_al ?_ _))⟩
theorem sum_take {l : List Int} {k : Nat} (h : k < l.length) : (l.take (k + 1)).sum = (l.take k).sum + l[k] := by
  rw [List.take_succ_eq_append_getElem h, List.sum_append]
  simp
theorem sum_le : ∀ (l : List Int) (k : Nat), (∀ n ∈ l, 1 ≤ n ∧ n ≤ 262144) → 0 ≤ (l.take k).sum ∧ (l.take k).sum ≤ l.length * 262144
  | [], k, _ => by simp
  | a :: l, 0, _ => by simp; omega
  | a :: l, k + 1, h => by
    have h1 := sum_le l k (fun n hn => h n (by simp [hn]))
    have h2 := h a (by simp)
    rw [List.take_succ_cons, List.sum_cons, List.length_cons]
    omega
set_option maxRecDepth 100000 in
set_option maxHeartbeats 1000000 in
theorem dev_any (b : Br) (v : Value) (w : World) (hm : b.mark.size ≤ 1000000) (hv : IsI b.dims v w) (hok : barV b = true) : Calls Tryd.prog 61 #[.agg (barC b v)] w fun e w' => e = .returned (.tuple #[spC (devLo b) (devHi b), .int .i64 0]) ∧ Below w.heap.size w w' := by
  have HV := Lib.hid (fun W (hW : Below w.heap.size w W) => legs2_any b v W hm (hv.up hW) hok)
  have hL := barV_legs hok
  have HA := Lib.hid (fun w => allow_any b.size hL.size w)
  have hp := all_pos hL.size
  obtain ⟨L, hLo⟩ : ∃ L, devLo b = L := ⟨_, rfl⟩
  obtain ⟨H, hHi⟩ : ∃ H, devHi b = H := ⟨_, rfl⟩
  rw [hLo, hHi]
  unfold devLo at hLo
  unfold devHi at hHi
  have hfew := hL.few
  have hpos := hL.pos
  have heach := Lib.hid hL.each
  have hbnd := Lib.hid (fun k => sum_le (legL b) k hL.each)
  generalize legL b = G at *
  unfold barC at HV ⊢
  obtain ⟨mk, sz, ct, c, l⟩ := b
  dsimp only at *
  obtain ⟨a, cc, rfl, -, -, -⟩ := hv
  obtain ⟨n0, hn0⟩ : ∃ n, l.length = n := ⟨_, rfl⟩
  rw [hn0] at HV ⊢
  clear hn0 hL hok
  generalize allLo sz = x at *
  generalize allHi sz = y at *
  obtain ⟨n, hn⟩ : ∃ n, G.length = n := ⟨_, rfl⟩
  rw [hn] at hLo hHi hfew hpos hbnd
  obtain ⟨S, hS⟩ : ∃ S, G.sum = S := ⟨_, rfl⟩
  rw [hS] at hLo hHi
  have hSb := hbnd.out n
  rw [List.take_of_length_le (by omega), hS] at hSb
  have hn2 := hn
  replace hn := Lib.hid hn
  replace hLo := Lib.hid hLo
  replace hHi := Lib.hid hHi
  replace hS := Lib.hid hS
  unfold spC at *
  go_enter Tryd.func61, Tryd.ntmps61
  go_wp2_with fail
  generalize hWW : World.alloc (World.alloc w _) _ = WW
  have kx : At WW w.heap.size 50 #[.string mk, .int .i64 sz, .int .i64 ct, .int .i64 c, .slice a n0 cc] := by rw [← hWW]; repeat (first | (with_reducible apply At.new'; (focus (simp; done))) | with_reducible apply At.al | with_reducible apply At.drw | with_reducible apply At.dr)
  have kr : At WW (w.heap.size + 1) 106 #[.int .i64 0, .int .i64 0] := by rw [← hWW]; repeat (first | (with_reducible apply At.new'; (focus (simp; done))) | with_reducible apply At.al | with_reducible apply At.drw | with_reducible apply At.dr)
  have HB : Below w.heap.size w WW := by rw [← hWW]; exact below_al (below_al (Below.refl _ _) _) _
  clear hWW
  have x0 : WW.cell? ⟨w.heap.size, 0, none⟩ = some (.string mk) := kx.c 0
  have x1 : WW.cell? ⟨w.heap.size, 1, none⟩ = some (.int .i64 sz) := kx.c 1
  have x2 : WW.cell? ⟨w.heap.size, 2, none⟩ = some (.int .i64 ct) := kx.c 2
  have x3 : WW.cell? ⟨w.heap.size, 3, none⟩ = some (.int .i64 c) := kx.c 3
  have x4 : WW.cell? ⟨w.heap.size, 4, none⟩ = some (.slice a n0 cc) := kx.c 4
  go_wp2_with fail
  refine (HV.out _ HB).mono ?_
  rintro e w1 ⟨⟨v', rfl, a2, c2, rfl, k2, k3, k4⟩, hb⟩
  rw [hn2] at k2 ⊢
  replace HB := below_then HB hb
  replace kx := kx.bel hb
  replace kr := kr.bel hb
  have ha2 := Lib.hid k4
  clear hb HV x0 x1 x2 x3 x4 k4 hn2
  go_wp2_with fail
  go_loopg [22, 6] n (fun g i u wr => ∃ (k : Nat) (s : Int), k ≤ n ∧ i = .int .i64 (k : Int) ∧ u = .int .i64 s ∧ Hid (g = n - k ∧ s = 1000 * (G.take k).sum) ∧ w1 = wr)
  case atStart => exact ⟨0, 0, Nat.zero_le _, rfl, rfl, Lib.hid ⟨rfl, by simp⟩, rfl⟩
  case round =>
    obtain ⟨k, s, hk, rfl, rfl, hr, rfl⟩ := hrel
    by_cases hlt : k < n
    · have hkl : Hid (k < G.length) := Lib.hid (by rw [hn.out]; exact hlt)
      obtain ⟨bb, off, rfl, c0, hb⟩ := (show RowAt (fun x => [Value.int .i64 x]) 1 w1.heap.size w1 a2 G from ha2.out).one k hkl.out
      have hz := heach.out _ (List.getElem_mem hkl.out)
      have hnx := Lib.hid (sum_take hkl.out)
      obtain ⟨z, hz2⟩ : ∃ z, G[k]'hkl.out = z := ⟨_, rfl⟩
      rw [hz2] at c0 hz hnx
      clear hb hz2
      have hb1 := hbnd.out k
      have hs := hr.out.2
      obtain ⟨t, ht⟩ : ∃ t, 1000 * z = t := ⟨_, rfl⟩
      obtain ⟨s2, hs2⟩ : ∃ s2, s + t = s2 := ⟨_, rfl⟩
      have u1 : IntKind.i64.wrap (1000 * z) = t := by rw [ht, IntWalk.i64_in _ (by omega)]
      have u2 : IntKind.i64.wrap (s + t) = s2 := by rw [hs2, IntWalk.i64_in _ (by omega)]
      have hst : Hid (s2 = 1000 * (G.take (k + 1)).sum) := Lib.hid (by rw [hnx.out]; omega)
      clear hb1 hs ht hs2 hz
      go_wp2_with fail
      go_roundg (n - (k + 1))
      case measure => have := hr.out.1; omega
      case rel => exact ⟨k + 1, s2, by omega, by go_num, rfl, Lib.hid ⟨rfl, hst.out⟩, rfl⟩
    · have hE : Hid (s = 1000 * S) := Lib.hid (by
        have := hr.out.2
        rw [List.take_of_length_le (by have := hn.out; omega), hS.out] at this
        exact this)
      have x1 : w1.cell? ⟨w.heap.size, 1, none⟩ = some (.int .i64 sz) := kx.c 1
      go_wp2_with fail
      refine (HA.out _).mono ?_
      rintro e w4 ⟨rfl, hb⟩
      replace HB := below_then HB hb
      replace kr := kr.bel hb
      clear hb HA x1 kx
      go_upto_region 13 with fail
      generalize hWW : World.alloc _ _ = W5
      have ky : At W5 w4.heap.size 106 #[.int .i64 x, .int .i64 y] := by rw [← hWW]; exact At.new' rfl
      have hbW : Below w4.heap.size w4 W5 := by rw [← hWW]; exact below_al (Below.refl _ _) _
      replace HB := below_then HB hbW
      replace kr := kr.bel hbW
      clear hWW hbW
      have Lkr := kr.lt
      obtain ⟨k0, k1, k2', k3'⟩ := kr.two
      have y0 : W5.cell? ⟨w4.heap.size, 0, none⟩ = some (.int .i64 x) := ky.c 0
      have y1 : W5.cell? ⟨w4.heap.size, 1, none⟩ = some (.int .i64 y) := ky.c 1
      have hs := hE.out
      have hlo := hLo.out
      have hhi := hHi.out
      obtain ⟨m, hm2⟩ : ∃ m : Int, (n : Int) - 1 = m := ⟨_, rfl⟩
      rw [hm2] at hlo hhi
      have hmb : 0 ≤ m ∧ m ≤ 5 := by omega
      obtain ⟨p, hp1⟩ : ∃ p, m * y = p := ⟨_, rfl⟩
      obtain ⟨q, hq1⟩ : ∃ q, m * x = q := ⟨_, rfl⟩
      rw [hp1, ← hs] at hlo
      rw [hq1, ← hs] at hhi
      have bp : 0 ≤ p ∧ p ≤ 2500000 := by
        rw [← hp1]
        have hmm : m = 0 ∨ m = 1 ∨ m = 2 ∨ m = 3 ∨ m = 4 ∨ m = 5 := by omega
        rcases hmm with rfl | rfl | rfl | rfl | rfl | rfl <;> omega
      have bq : 0 ≤ q ∧ q ≤ 2500000 := by
        rw [← hq1]
        have hmm : m = 0 ∨ m = 1 ∨ m = 2 ∨ m = 3 ∨ m = 4 ∨ m = 5 := by omega
        rcases hmm with rfl | rfl | rfl | rfl | rfl | rfl <;> omega
      have v1 : IntKind.i64.wrap ((n : Int) - 1) = m := by rw [hm2, IntWalk.i64_in _ (by omega)]
      have v2 : IntKind.i64.wrap (m * y) = p := by rw [hp1, IntWalk.i64_in _ (by omega)]
      have v3 : IntKind.i64.wrap (m * x) = q := by rw [hq1, IntWalk.i64_in _ (by omega)]
      have v4 : IntKind.i64.wrap (s - p) = L := by rw [hlo, IntWalk.i64_in _ (by omega)]
      have v5 : IntKind.i64.wrap (s - q) = H := by rw [hhi, IntWalk.i64_in _ (by omega)]
      clear hs hlo hhi hm2 hmb hp1 hq1 bp bq
      go_wp2_with fail
      exact bodyPost_ret (v := .tuple #[.agg #[.int .i64 L, .int .i64 H], .int .i64 0]) (by simp [results, Tryd.results61, go_sem, *]) rfl ⟨rfl, (by repeat (first | with_reducible assumption | with_reducible exact Below.refl _ _ | with_reducible refine below_set ?_ (by dsimp only; omega) _ | with_reducible refine below_al ?_ _))⟩
end Go.Proofs.YtjlkbmaigcgnbaaDoor
