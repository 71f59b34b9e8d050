/- quantity.Total; lorry.Bound. -/
import Derived.Test.YtjlkbmaigcgnbaaDoorBJ31
import Derived.Test.YtjlkbmaigcgnbaaDoorBJ18
import Derived.Test.YtjlkbmaigcgnbaaDoorBJ19
import Derived.Laws.OwnMore
set_option linter.unusedVariables false
namespace Go.Proofs.YtjlkbmaigcgnbaaDoor
open Go.ChangeShapes Go.WideShapes Go.ChangeAt Go.RowKit
theorem sum_set_add : ∀ (R : List Int) (i : Nat) (x : Int) (hi : i < R.length), (R.set i (R[i] + x)).sum = R.sum + x
  | a :: R, 0, x, _ => by simp; omega
  | a :: R, i + 1, x, hi => by
    have := sum_set_add R i x (by simpa using hi)
    rw [List.set_cons_succ, List.sum_cons, List.sum_cons]
    simp only [List.getElem_cons_succ]
    omega
theorem idx_size {d : Int} (h : sizD d = true) : ∃ i : Nat, fxI (fun y => decide (d = y)) sizesL = (i : Int) ∧ i < 9 := by
  rcases sizD_or h with rfl | rfl | rfl | rfl | rfl | rfl | rfl | rfl | rfl
  · exact ⟨0, by decide, by decide⟩
  · exact ⟨1, by decide, by decide⟩
  · exact ⟨2, by decide, by decide⟩
  · exact ⟨3, by decide, by decide⟩
  · exact ⟨4, by decide, by decide⟩
  · exact ⟨5, by decide, by decide⟩
  · exact ⟨6, by decide, by decide⟩
  · exact ⟨7, by decide, by decide⟩
  · exact ⟨8, by decide, by decide⟩
def lineM (b : Br) : Int := b.count * massB b
theorem lineM_le {b : Br} (h : barV b = true) : 0 ≤ lineM b ∧ lineM b ≤ 10000000000 := by
  have hm := mass_le (barV_legs h)
  have hc : 1 ≤ b.count ∧ b.count ≤ 1000 := by
    unfold barV at h
    simp only [Bool.and_eq_true, decide_eq_true_eq] at h
    exact ⟨h.1.1.1.2, h.1.1.2⟩
  unfold lineM
  refine ⟨Int.mul_nonneg (by omega) (by omega), ?_⟩
  have h1 : b.count * massB b ≤ 1000 * massB b := Int.mul_le_mul_of_nonneg_right (by omega) (by omega)
  omega
theorem line_take (l : List Br) (k : Nat) (hk : k < l.length) : ((l.take (k + 1)).map lineM).sum = ((l.take k).map lineM).sum + lineM l[k] := by
  rw [List.take_succ_eq_append_getElem hk, List.map_append, List.sum_append]
  simp
set_option maxRecDepth 100000 in
set_option maxHeartbeats 1000000 in
theorem masses_any (l : List Br) (ds : List Value) (a : Option Addr) (cc : Nat) (w : World) (h : BarsV w l ds a cc) (hv : schV l = true) : Calls Tryd.prog 25 #[.slice a l.length cc] w fun e w' => (∃ v R, e = .returned v ∧ IsI R v w' ∧ R.length = 9 ∧ R.sum = (l.map lineM).sum ∧ ∀ x ∈ R, 0 ≤ x ∧ x ≤ 600000000000) ∧ Below w.heap.size w w' := by
  obtain ⟨i0, hi, hz0, hz1, hz2⟩ := info_parts infoInt
  have hsv : l.all barV = true ∧ l.length ≤ 60 := by
    unfold schV at hv
    simp only [Bool.and_eq_true, decide_eq_true_eq] at hv
    exact ⟨hv.1.2, hv.1.1⟩
  have hn60 := hsv.2
  have hall := Lib.hid (fun (k : Nat) (hk : k < l.length) => List.all_eq_true.1 hsv.1 _ (List.getElem_mem hk))
  have HS := Lib.hid (sizes_any w)
  have HM := Lib.hid (fun (k : Nat) (h1 : k < l.length) (h2 : k < ds.length) (W : World) (hW : Below w.heap.size w W) => bendMass_any l[k] ds[k] W (h.nm _ (List.getElem_mem h1)) ((h.dims k h1 h2).up hW) (hall.out k h1))
  have hrow := Lib.hid h.row
  have hzl := Lib.hid h.zlen
  have hdn := Lib.hid h.n
  have hds := Lib.hid (fun (k : Nat) (h1 : k < l.length) (h2 : k < ds.length) => show ∃ da dn dc, ds[k] = .slice da dn dc by obtain ⟨da, dc, e, _⟩ := h.dims k h1 h2; exact ⟨da, _, dc, e⟩)
  obtain ⟨n, hn⟩ : ∃ n, l.length = n := ⟨_, rfl⟩
  rw [hn] at hn60 ⊢
  replace hn := Lib.hid hn
  clear h hv hsv
  go_enter Tryd.func25, Tryd.ntmps25
  go_wp2_with fail
  refine HS.out.mono ?_
  rintro e w1 ⟨⟨sv, rfl, sa, sc, rfl, s2, s3, s4⟩, HB⟩
  rw [show sizesL.length = 9 from rfl] at s2 ⊢
  clear HS
  obtain ⟨W9, hmk, hown, hgr⟩ := run_makeSlice_full (P := Tryd.prog) w1 w1.heap.size 42 3 i0 (.int .i64 0) 1 Tryd.underlying42 hi hz0 hz1 .i64 .i64 9 (by decide) (by rw [hz2]; decide) (by unfold maxLen; decide) (Nat.le_refl _)
  have hown0 : Hid (W9.ownsRow w1.heap.size 3 1 (.slice (some ⟨w1.heap.size, 0, none⟩) 9 9) 9 (intV (List.replicate 9 0))) := Lib.hid (by
    have e9 : (madeCells (Value.int .i64 0).cells (9 * 1)).toList = intV (List.replicate 9 0) := by kernel_rfl
    rw [e9] at hown
    exact hown)
  have HB9 : Below w1.heap.size w1 W9 := ⟨hgr.os, hgr.tape, hgr.output, hgr.size, fun k hk => hgr.block k hk (fun e => by cases e)⟩
  have hs4 := Lib.hid s4
  have hs9 : Hid (sizesL.length ≤ sc) := Lib.hid s2
  have HBH := Lib.hid HB
  have hW1 := Lib.hid HB.size
  obtain ⟨g, hg⟩ : ∃ g, w1.heap.size = g := ⟨_, rfl⟩
  rw [hg] at hown0 hmk
  have hgg := Lib.hid hg
  have hmk2 : (Instr.makeSlice 42 (.int .i64 9) (.int .i64 9)).run Tryd.prog w1 = .ok (.slice (some ⟨g, 0, none⟩) 9 9) W9 := hmk
  clear hown hgr s4 HB hg hmk
  go_wp2_with fail
  go_loopg [15] n (fun g1 i wr => ∃ (k : Nat) (R : List Int), k ≤ n ∧ i = .int .i64 (k : Int) ∧ Hid (g1 = n - k) ∧ Hid (R.length = 9 ∧ R.sum = ((l.take k).map lineM).sum ∧ ∀ x ∈ R, 0 ≤ x ∧ x ≤ (k : Int) * 10000000000) ∧ Below w1.heap.size w1 wr ∧ Hid (wr.ownsRow g 3 1 (.slice (some ⟨g, 0, none⟩) 9 9) 9 (intV R)))
  case atStart => exact ⟨0, List.replicate 9 0, Nat.zero_le _, rfl, Lib.hid rfl, Lib.hid ⟨rfl, rfl, fun x hx => by rw [List.eq_of_mem_replicate hx]; exact ⟨Int.le_refl _, by decide⟩⟩, HB9, hown0⟩
  case round =>
    clear HB9 hown0 hmk2
    obtain ⟨k, R, hk, rfl, hr, hR, HB, ho⟩ := hrel
    by_cases hlt : k < n
    · have hkl : Hid (k < l.length) := Lib.hid (by rw [hn.out]; exact hlt)
      have hkd : Hid (k < ds.length) := Lib.hid (by rw [hdn.out]; exact hkl.out)
      have hkz : Hid (k < (l.zip ds).length) := Lib.hid (by rw [hzl.out]; exact hkl.out)
      have HBw := below_then HBH.out HB
      obtain ⟨bb, off, rfl, c0, c1, c2, c3, c4⟩ := (hrow.out.bel (Nat.le_refl _) HBw).bar k hkz.out
      simp only [List.getElem_zip] at c0 c1 c2 c3 c4
      have hbok := hall.out k hkl.out
      have hLk := (barV_legs hbok).size
      have hlm := lineM_le hbok
      have HMk := Lib.hid (HM.out k hkl.out hkd.out)
      have hnx := Lib.hid (line_take l k hkl.out)
      obtain ⟨da, dn, dc, hdv⟩ := hds.out k hkl.out hkd.out
      obtain ⟨x, hx⟩ : ∃ x, l[k]'hkl.out = x := ⟨_, rfl⟩
      rw [hx] at c0 c1 c2 c3 HMk hLk hlm hnx
      rw [hdv] at c4 HMk
      clear hdv hx hbok
      obtain ⟨mm, hmm⟩ : ∃ mm, lineM x = mm := ⟨_, rfl⟩
      rw [hmm] at hlm hnx
      rw [show x.count * massB x = mm from hmm] at HMk
      clear hmm
      unfold barC at HMk
      obtain ⟨mk, sz, ct, c, dd⟩ := x
      dsimp only at c0 c1 c2 c3 HMk hLk
      obtain ⟨ii, hii, hi9⟩ := idx_size hLk
      have hil : Hid (ii < R.length) := Lib.hid (by rw [hR.out.1]; exact hi9)
      have hRi := hR.out.2.2 _ (List.getElem_mem hil.out)
      have hset := Lib.hid (sum_set_add R ii mm hil.out)
      obtain ⟨y, hy⟩ : ∃ y, R[ii]'hil.out = y := ⟨_, rfl⟩
      rw [hy] at hRi hset
      obtain ⟨s2, hs2⟩ : ∃ s2, y + mm = s2 := ⟨_, rfl⟩
      rw [hs2] at hset
      have hkb : (k : Int) * 10000000000 ≤ 600000000000 := by omega
      have z1 : IntKind.i64.wrap (y + mm) = s2 := by rw [hs2, IntWalk.i64_in _ (by omega)]
      have hnew : Hid ((R.set ii s2).length = 9 ∧ (R.set ii s2).sum = ((l.take (k + 1)).map lineM).sum ∧ ∀ x ∈ R.set ii s2, 0 ≤ x ∧ x ≤ ((k + 1 : Nat) : Int) * 10000000000) := Lib.hid ⟨by rw [List.length_set]; exact hR.out.1, by rw [hset.out, hnx.out, hR.out.2.1], fun x hx => by
        rcases List.mem_or_eq_of_mem_set hx with q | q
        · have := hR.out.2.2 x q
          omega
        · omega⟩
      go_upto_region 6 with fail
      generalize hWW : World.alloc wr _ = W3
      have kb : At W3 wr.heap.size 50 #[.string mk, .int .i64 sz, .int .i64 ct, .int .i64 c, .slice da dn dc] := by rw [← hWW]; exact At.new' rfl
      have hbW : Below wr.heap.size wr W3 := by rw [← hWW]; exact below_al (Below.refl _ _) _
      replace HB := below_then HB hbW
      replace ho := Lib.hid (World.ownsRow_up ho.out hbW)
      replace HBw := below_then HBw hbW
      clear hWW hbW c0 c1 c2 c3 c4 hlm hRi hs2 hkb
      have x0 : W3.cell? ⟨wr.heap.size, 0, none⟩ = some (.string mk) := kb.c 0
      have x1 : W3.cell? ⟨wr.heap.size, 1, none⟩ = some (.int .i64 sz) := kb.c 1
      have x2 : W3.cell? ⟨wr.heap.size, 2, none⟩ = some (.int .i64 ct) := kb.c 2
      have x3 : W3.cell? ⟨wr.heap.size, 3, none⟩ = some (.int .i64 c) := kb.c 3
      have x4 : W3.cell? ⟨wr.heap.size, 4, none⟩ = some (.slice da dn dc) := kb.c 4
      go_wp2_with fail
      refine (HMk.out _ HBw).mono ?_
      rintro e w4 ⟨rfl, hb⟩
      replace HB := below_then HB hb
      replace ho := Lib.hid (World.ownsRow_up ho.out hb)
      replace kb := kb.bel hb
      clear hb x0 x1 x2 x3 x4 HMk HBw
      have x1 : w4.cell? ⟨wr.heap.size, 1, none⟩ = some (.int .i64 sz) := kb.c 1
      have HIx := Lib.hid (indexZ_any sizesL sz sa sc hs9.out s3 _ w4 (Lib.hid ((hs4.out.bel (Nat.le_refl _) HB).mono HB.size)))
      rw [hii, show sizesL.length = 9 from rfl] at HIx
      clear hii
      go_wp2_with fail
      refine HIx.out.mono ?_
      rintro e w5 ⟨rfl, rfl⟩
      obtain ⟨hfr, hcell⟩ := own_at ho.out
      have d1 : w4.cell? ⟨g, ii, none⟩ = some (.int .i64 y) := hcell ii _ (by unfold intV; rw [List.getElem?_map, List.getElem?_eq_getElem hil.out, hy]; rfl)
      have f1 := hfr ii
      have hg1 : w1.heap.size ≤ g := by rw [hgg.out]; exact Nat.le_refl _
      clear HIx x1 kb hfr hcell hy
      go_wp2_with fail
      generalize hWW : World.setCell _ _ _ = W5
      have ho5 : Hid (W5.ownsRow g 3 1 (.slice (some ⟨g, 0, none⟩) 9 9) 9 (intV (R.set ii s2))) := Lib.hid (by
        rw [← hWW, show intV (R.set ii s2) = (intV R).set ii (.int .i64 s2) by unfold intV; rw [List.map_set]]
        exact own_put ho.out (g := g) rfl hi9 _)
      have HB5 : Below w1.heap.size w1 W5 := by rw [← hWW]; exact HB.setCell (p := ⟨g, ii, none⟩) hg1 _
      clear hWW HB ho d1 f1
      go_roundg (n - (k + 1))
      case measure => have := hr.out; omega
      case rel => exact ⟨k + 1, R.set ii s2, by omega, by go_num, Lib.hid rfl, hnew, HB5, ho5⟩
    · have hE : Hid (R.sum = (l.map lineM).sum) := Lib.hid (by
        have h1 := hR.out.2.1
        rwa [List.take_of_length_le (by have := hn.out; omega)] at h1)
      have hbd : Hid (∀ x ∈ R, 0 ≤ x ∧ x ≤ 600000000000) := Lib.hid fun x hx => by
        have := hR.out.2.2 x hx
        omega
      go_wp2_with fail
      go_ret
      exact ⟨⟨_, R, rfl, own_isI (l := R) (by rw [hR.out.1]; exact ho.out), hR.out.1, hE.out, hbd.out⟩, below_then HBH.out HB⟩
theorem sumI_take (R : List Int) (k : Nat) (hk : k < R.length) : (R.take (k + 1)).sum = (R.take k).sum + R[k] := by
  rw [List.take_succ_eq_append_getElem hk, List.sum_append]
  simp
theorem sumI_bound : ∀ (R : List Int) (k : Nat), (∀ x ∈ R, 0 ≤ x ∧ x ≤ 600000000000) → 0 ≤ (R.take k).sum ∧ (R.take k).sum ≤ (R.length : Int) * 600000000000
  | [], k, _ => by simp
  | a :: R, 0, _ => by simp; omega
  | a :: R, k + 1, h => by
    have h1 := sumI_bound R k (fun n hn => h n (by simp [hn]))
    have h2 := h a (by simp)
    rw [List.take_succ_cons, List.sum_cons, List.length_cons]
    omega
set_option maxRecDepth 100000 in
set_option maxHeartbeats 1000000 in
theorem total_any (l : List Br) (ds : List Value) (a : Option Addr) (cc : Nat) (w : World) (h : BarsV w l ds a cc) (hv : schV l = true) : Calls Tryd.prog 9 #[.slice a l.length cc] w fun e w' => e = .returned (.tuple #[.int .i64 (l.map lineM).sum, .int .i64 0]) ∧ Below w.heap.size w w' := by
  have HV := Lib.hid (schV_any l ds a cc w h)
  rw [hv] at HV
  have HM := Lib.hid (fun (W : World) (hW : Below w.heap.size w W) => masses_any l ds a cc W (h.up hW) hv)
  obtain ⟨T, hT⟩ : ∃ T, (l.map lineM).sum = T := ⟨_, rfl⟩
  rw [hT] at HM ⊢
  generalize l.length = n at *
  clear h hv hT
  go_enter Tryd.func9, Tryd.ntmps9
  go_wp2_with fail
  refine HV.out.mono ?_
  rintro e w1 ⟨rfl, HB⟩
  clear HV
  go_wp2_with fail
  refine (HM.out _ HB).mono ?_
  rintro e w2 ⟨⟨v, R, rfl, ⟨ra, rc, rfl, q1, q2, q3⟩, hR1, hR2, hR3⟩, hb⟩
  have hbd := Lib.hid (fun k => sumI_bound R k hR3)
  replace HB := below_then HB hb
  have hrow := Lib.hid q3
  rw [hR1] at q1 hbd ⊢
  replace hR1 := Lib.hid hR1
  replace hR2 := Lib.hid hR2
  replace hR3 := Lib.hid hR3
  clear HM hb q3
  go_wp2_with fail
  go_loopg [13, 4] 9 (fun g i u wr => ∃ (k : Nat) (s : Int), k ≤ 9 ∧ i = .int .i64 (k : Int) ∧ u = .int .i64 s ∧ Hid (g = 9 - k ∧ s = (R.take k).sum) ∧ w2 = wr)
  case atStart => exact ⟨0, 0, by omega, rfl, rfl, Lib.hid ⟨rfl, by simp⟩, rfl⟩
  case round =>
    obtain ⟨k, s, hk, rfl, rfl, hr, rfl⟩ := hrel
    by_cases hlt : k < 9
    · have hkl : Hid (k < R.length) := Lib.hid (by rw [hR1.out]; exact hlt)
      obtain ⟨b, off, rfl, c0, -⟩ := (show RowAt (fun x => [Value.int .i64 x]) 1 w2.heap.size w2 ra R from hrow.out).one k hkl.out
      have hx := hR3.out _ (List.getElem_mem hkl.out)
      have hnx := Lib.hid (sumI_take R k hkl.out)
      obtain ⟨x, hx2⟩ : ∃ x, R[k]'hkl.out = x := ⟨_, rfl⟩
      rw [hx2] at c0 hx hnx
      clear hx2
      have hb1 := hbd.out k
      have hs2 := hr.out.2
      obtain ⟨s2, hs3⟩ : ∃ s2, s + x = s2 := ⟨_, rfl⟩
      have z1 : IntKind.i64.wrap (s + x) = s2 := by rw [hs3, IntWalk.i64_in _ (by omega)]
      have hst : Hid (s2 = (R.take (k + 1)).sum) := Lib.hid (by rw [hnx.out]; omega)
      clear hb1 hs2 hs3 hx
      go_wp2_with fail
      go_roundg (9 - (k + 1))
      case measure => have := hr.out.1; omega
      case rel => exact ⟨k + 1, s2, by omega, by go_num, rfl, Lib.hid ⟨rfl, hst.out⟩, rfl⟩
    · have hE : Hid (s = T) := Lib.hid (by
        have h1 := hr.out.2
        rw [List.take_of_length_le (by have := hR1.out; omega), hR2.out] at h1
        exact h1)
      go_wp2_with fail
      exact bodyPost_ret (v := .tuple #[.int .i64 s, .int .i64 0]) (by simp [results, Tryd.results9, go_sem]) rfl ⟨by rw [hE.out], HB⟩
end Go.Proofs.YtjlkbmaigcgnbaaDoor
