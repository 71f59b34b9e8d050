/- bundle.Check: bundles of their schedule have no findings. -/
import Derived.Test.YtjlkbmaigcgnbaaDoorBJ32
import Derived.Test.YtjlkbmaigcgnbaaDoorBJ18
set_option linter.unusedVariables false
namespace Go.Proofs.YtjlkbmaigcgnbaaDoor
open Go.ChangeShapes Go.WideShapes Go.ChangeAt Go.RowKit Go.Maps Go.ChangeMaps Go.WideMaps
def massF (l : List Br) (s : ByteArray) : Option Int := (l.reverse.find? fun b => decide (b.mark = s)).map massB
theorem massF_snoc (l : List Br) (b : Br) : massF (l ++ [b]) = fun s => if s = b.mark then some (massB b) else massF l s := by
  funext s
  unfold massF
  rw [List.reverse_append, List.reverse_singleton, List.singleton_append, List.find?_cons]
  by_cases e : s = b.mark
  · rw [if_pos e, decide_eq_true e.symm]
    rfl
  · rw [if_neg e, decide_eq_false (fun h => e h.symm)]
theorem massF_at {l : List Br} (hn : (l.map (·.mark)).Nodup) {b : Br} (hb : b ∈ l) : massF l b.mark = some (massB b) := by
  unfold massF
  cases h : l.reverse.find? (fun c => decide (c.mark = b.mark)) with
  | none =>
    rw [List.find?_eq_none] at h
    exact absurd (decide_eq_true rfl) (h b (by simpa using hb))
  | some c =>
    have h1 := List.find?_some h
    have h2 := List.mem_of_find?_eq_some h
    have h3 : c.mark = b.mark := of_decide_eq_true h1
    have h4 : c ∈ l := by simpa using h2
    have : c = b := by
      obtain ⟨i, hi, rfl⟩ := List.getElem_of_mem h4
      obtain ⟨j, hj, rfl⟩ := List.getElem_of_mem hb
      have : i = j := (List.getElem_inj (xs := l.map (·.mark)) (h₀ := by simpa using hi) (h₁ := by simpa using hj) hn).1 (by simpa using h3)
      subst this
      rfl
    rw [this]
    rfl
def cntF (U : List Bun) (s : ByteArray) : Option Int := if U.any (fun x => decide (x.mark = s)) then some (cntU U s) else none
theorem cntU_snoc (U : List Bun) (x : Bun) (s : ByteArray) : cntU (U ++ [x]) s = cntU U s + if x.mark = s then x.count else 0 := by
  unfold cntU
  rw [List.filter_append, List.map_append, List.sum_append]
  by_cases e : x.mark = s
  · rw [if_pos e]; simp [e]
  · rw [if_neg e]; simp [e]
theorem cntU_none {U : List Bun} {s : ByteArray} (h : U.any (fun x => decide (x.mark = s)) = false) : cntU U s = 0 := by
  unfold cntU
  have : U.filter (fun x => decide (x.mark = s)) = [] := by
    rw [List.filter_eq_nil_iff]
    intro x hx
    have := List.any_eq_false.1 h x hx
    exact this
  rw [this]
  rfl
theorem cntF_get (U : List Bun) (s : ByteArray) : (cntF U s).getD 0 = cntU U s := by
  unfold cntF
  cases h : U.any (fun x => decide (x.mark = s))
  · rw [cntU_none h]; rfl
  · rfl
theorem cntF_snoc (U : List Bun) (x : Bun) : cntF (U ++ [x]) = fun s => if s = x.mark then some (cntU U x.mark + x.count) else cntF U s := by
  funext s
  unfold cntF
  rw [List.any_append, cntU_snoc]
  by_cases e : s = x.mark
  · subst e
    simp
  · have e2 : ¬ x.mark = s := fun h => e h.symm
    rw [if_neg e, if_neg e2, Int.add_zero]
    simp [e2]
theorem cnt_bound : ∀ (U : List Bun) (s : ByteArray), (∀ x ∈ U, 1 ≤ x.count ∧ x.count ≤ 1000) → 0 ≤ cntU U s ∧ cntU U s ≤ (U.length : Int) * 1000
  | [], s, _ => by simp [cntU]
  | x :: U, s, h => by
    have h1 := cnt_bound U s (fun y hy => h y (by simp [hy]))
    have h2 := h x (by simp)
    unfold cntU at h1 ⊢
    rw [List.filter_cons, List.length_cons]
    split
    · rw [List.map_cons, List.sum_cons]; omega
    · omega
theorem wp_onlyB {P : Program} {c : Code} {Q' : Exit → Act → World → Prop} {a : Act} {w : World} (h : c.wp P (Exit.then (fun a w => Q' .normal a w) (fun _ _ _ => False)) a w) : c.wp P Q' a w :=
  wp_mono h fun e a w h => by cases e <;> first | exact h | exact (h : False).elim
set_option maxRecDepth 100000 in
set_option maxHeartbeats 2000000 in
theorem bcheck_any (l : List Br) (ds : List Value) (a : Option Addr) (cc : Nat) (U : List Bun) (ub : Option Addr) (uc : Nat) (hlu : U.length ≤ uc) (hcu : uc ≤ 9223372036854775807) (hs : ∀ x ∈ U, x.tag.size ≤ 60 ∧ x.mark.size ≤ 60) (w : World) (h : BarsV w l ds a cc) (hU : RowAt encB 4 w.heap.size w ub U) (hv : schV l = true) (hu : bunV U = true) (hmz : ∀ b ∈ l, b.mark.size ≤ 60) (hc1 : ∀ b ∈ l, cntU U b.mark = b.count) (hc2 : ∀ x ∈ U, ∃ b ∈ l, x.mark = b.mark ∧ x.mass = x.count * massB b) :
    Calls Tryd.prog 7 #[.slice a l.length cc, .slice ub U.length uc] w fun e w' => e = .returned (.tuple #[.slice none 0 0, .int .i64 0]) ∧ Below w.heap.size w w' := by
  have hmm := @run_makeMap Tryd.prog
  have HV := Lib.hid (schV_any l ds a cc w h)
  rw [hv] at HV
  have HB0 := Lib.hid (fun (W : World) (hW : Below w.heap.size w W) => bvalid_any U ub uc hlu hcu (Lib.hid hs) W (Lib.hid ((hU.bel (Nat.le_refl _) hW).mono hW.size)))
  rw [hu] at HB0
  have hsv : l.all barV = true ∧ l.length ≤ 60 ∧ (l.map (·.mark)).Nodup := by
    unfold schV marksD at hv
    simp only [Bool.and_eq_true, decide_eq_true_eq] at hv
    exact ⟨hv.1.2, hv.1.1, hv.2⟩
  have hn60 := hsv.2.1
  have hnd := Lib.hid hsv.2.2
  have hall := Lib.hid (fun (k : Nat) (hk : k < l.length) => List.all_eq_true.1 hsv.1 _ (List.getElem_mem hk))
  have HO := Lib.hid (fun (k : Nat) (h1 : k < l.length) (h2 : k < ds.length) (W : World) (hW : Below w.heap.size w W) => one_any l[k] ds[k] W (h.nm _ (List.getElem_mem h1)) ((h.dims k h1 h2).up hW) (hall.out k h1))
  have hrow := Lib.hid h.row
  have hzl := Lib.hid h.zlen
  have hdn := Lib.hid h.n
  have hds := Lib.hid (fun (k : Nat) (h1 : k < l.length) (h2 : k < ds.length) => show ∃ da dn dc, ds[k] = .slice da dn dc by obtain ⟨da, dc, e, _⟩ := h.dims k h1 h2; exact ⟨da, _, dc, e⟩)
  have hcoA : Hid (∀ x ∈ U, 1 ≤ x.count ∧ x.count ≤ 1000) := Lib.hid fun x hx => by
    unfold bunV at hu
    simp only [Bool.and_eq_true, decide_eq_true_eq] at hu
    have h3 := List.all_eq_true.1 hu.1.2 x hx
    unfold bunOk at h3
    simp only [Bool.and_eq_true, decide_eq_true_eq] at h3
    omega
  have hco0 : Hid (∀ (j : Nat) (h : j < U.length), 1 ≤ U[j].count ∧ U[j].count ≤ 1000) := Lib.hid fun j h => hcoA.out _ (List.getElem_mem h)
  have hallA : Hid (∀ b ∈ l, barV b = true) := Lib.hid fun b hb => List.all_eq_true.1 hsv.1 b hb
  have hun : U.length ≤ 1000 := by
    unfold bunV at hu
    simp only [Bool.and_eq_true, decide_eq_true_eq] at hu
    exact hu.1.1
  obtain ⟨n, hn⟩ : ∃ n, l.length = n := ⟨_, rfl⟩
  obtain ⟨m, hm⟩ : ∃ m, U.length = m := ⟨_, rfl⟩
  rw [hn] at HV hn60 ⊢
  rw [hm] at HB0 hun hlu ⊢
  replace hn := Lib.hid hn
  replace hm := Lib.hid hm
  replace hU := Lib.hid hU
  replace hs := Lib.hid hs
  replace hmz := Lib.hid hmz
  replace hc1 := Lib.hid hc1
  replace hc2 := Lib.hid hc2
  clear h hv hu hsv
  go_enter Tryd.func7, Tryd.ntmps7
  go_wp2_with fail
  refine HV.out.mono ?_
  rintro e w1 ⟨rfl, HB⟩
  go_wp2_with fail
  refine (HB0.out _ HB).mono ?_
  rintro e w2 ⟨rfl, hb⟩
  replace HB := below_then HB hb
  clear HV HB0 hb
  go_upto_region 4 with fail
  generalize hWW : World.alloc (World.alloc w2 _) _ = W0
  have hb0 : Below w2.heap.size w2 W0 := by rw [← hWW]; exact below_al (below_al (Below.refl _ _) _) _
  have hC0 : Hid (FunS W0 w2.heap.size 0 (cntF [])) := Lib.hid (by
    rw [← hWW]
    exact (FunS.made w2).bel (below_al (Below.refl _ _) _))
  have hM0 : Hid (FunS W0 (w2.heap.size + 1) 0 (massF [])) := Lib.hid (by
    rw [← hWW]
    have := FunS.made (w2.alloc (.map #[] 0))
    rwa [show (w2.alloc (.map #[] 0)).heap.size = w2.heap.size + 1 by simp] at this)
  clear hWW
  replace HB := Lib.hid HB
  go_wp2_with fail
  go_loopg [32] n (fun g1 i wr => ∃ k : Nat, k ≤ n ∧ i = .int .i64 (k : Int) ∧ Hid (g1 = n - k) ∧ Below w2.heap.size w2 wr ∧ Hid (FunS wr w2.heap.size 0 (cntF [])) ∧ Hid (FunS wr (w2.heap.size + 1) k (massF (l.take k))))
  case atStart => exact ⟨0, Nat.zero_le _, rfl, Lib.hid rfl, hb0, hC0, hM0⟩
  case round =>
    clear hb0 hC0 hM0
    obtain ⟨k, hk, rfl, hr, HBr, hC, hM⟩ := hrel
    by_cases hlt : k < n
    · have hkl : Hid (k < l.length) := Lib.hid (by rw [hn.out]; exact hlt)
      have hkd : Hid (k < ds.length) := Lib.hid (by rw [hdn.out]; exact hkl.out)
      have hkz : Hid (k < (l.zip ds).length) := Lib.hid (by rw [hzl.out]; exact hkl.out)
      have HBw := below_then HB.out HBr
      obtain ⟨bb, off, rfl, c0, c1, c2, c3, c4⟩ := (hrow.out.bel (Nat.le_refl _) HBw).bar k hkz.out
      simp only [List.getElem_zip] at c0 c1 c2 c3 c4
      have HOk := Lib.hid (HO.out k hkl.out hkd.out)
      have hml := mass_le (barV_legs (hall.out k hkl.out))
      have hkey := key_of (l[k]'hkl.out).mark (by have := hmz.out _ (List.getElem_mem hkl.out); unfold maxLen; omega)
      have hnx : Hid (massF (l.take (k + 1)) = fun s => if s = (l[k]'hkl.out).mark then some (massB (l[k]'hkl.out)) else massF (l.take k) s) := Lib.hid (by rw [List.take_succ_eq_append_getElem hkl.out, massF_snoc])
      obtain ⟨da, dn, dc, hdv⟩ := hds.out k hkl.out hkd.out
      obtain ⟨x, hx⟩ : ∃ x, l[k]'hkl.out = x := ⟨_, rfl⟩
      rw [hx] at c0 c1 c2 c3 HOk hml hkey hnx
      rw [hdv] at c4 HOk
      clear hdv hx
      obtain ⟨mm, hmm⟩ : ∃ mm, massB x = mm := ⟨_, rfl⟩
      rw [hmm] at HOk hml hnx
      have hwf := wf_int (x := mm) (by omega)
      replace hmm := Lib.hid hmm
      unfold barC at HOk
      obtain ⟨mk, sz, ct, c, dd⟩ := x
      dsimp only at c0 c1 c2 c3 HOk hkey hnx
      go_upto_region 7 with fail
      generalize hWW : World.alloc wr _ = W3
      have kb : At W3 wr.heap.size 50 #[.string mk, .int .i64 sz, .int .i64 ct, .int .i64 c, .slice da dn dc] := by rw [← hWW]; exact At.new' rfl
      have hbW : Below wr.heap.size wr W3 := by rw [← hWW]; exact below_al (Below.refl _ _) _
      replace HBr := below_then HBr hbW
      replace hC := Lib.hid (hC.out.bel hbW)
      replace hM := Lib.hid (hM.out.bel hbW)
      replace HBw := below_then HBw hbW
      have HOW := Lib.hid (fun (W : World) (hW : Below W3.heap.size W3 W) => HOk.out W (below_then HBw hW))
      have hl2 := hM.out.lt
      clear hWW hbW c0 c1 c2 c3 c4 HOk
      refine wp_onlyB ?_
      refine wp_region_grow0 5 (by kernel_rfl) (by kernel_rfl) only_panic ?_
      apply Exists.intro
      refine And.intro (fun W' hW' => ?_) ?_
      focus
        have Kb := At.bel kb hW'
        have HOx := Lib.hid (fun (W : World) (hW : Below W'.heap.size W' W) => HOW.out W (below_then hW' hW))
        have K0 := cell_regrown (Kb.c 0)
        have K1 := cell_regrown (Kb.c 1)
        have K2 := cell_regrown (Kb.c 2)
        have K3 := cell_regrown (Kb.c 3)
        have K4 := cell_regrown (Kb.c 4)
        simp only [List.take_succ_cons, List.take_zero]
        repeat (go_big_quiet_step ((first | with_reducible exact regrown_call_at HOx.out)))
        exact wpQuiet_nil rfl
      intro w4 hb1
      replace HBr := below_then HBr hb1
      replace hC := Lib.hid (hC.out.bel hb1)
      replace hM := Lib.hid (hM.out.bel hb1)
      clear hb1 kb HOW HBw
      simp only [List.drop_succ_cons, List.drop_zero]
      obtain ⟨D, hown, hat⟩ := hM.out
      have hD := Lib.hid hown.isMap
      replace hat := Lib.hid hat
      have hkn : Hid (k < maxLen) := Lib.hid (by unfold maxLen; omega)
      go_wp2_with (first | (at_mapUpdate; refine wpList_mapUpdate_own _ rfl _ _ _ 65 rfl 9 3 key_str Tryd.underlying65 _ (w2.heap.size + 1) k _ rfl hown hkn.out _ _ _ rfl rfl hkey _ [] (plainElem_int Tryd.underlying3 hwf) ?_) | go_in)
      intro w5 hown5 hg5
      have hM5 : Hid (FunS w5 (w2.heap.size + 1) (k + 1) (massF (l.take (k + 1)))) := Lib.hid (by
        rw [hnx.out]
        exact funS_put hown5 hD.out hat.out)
      have hC5 : Hid (FunS w5 w2.heap.size 0 (cntF [])) := Lib.hid (hC.out.same (hg5.block _ hC.out.lt (fun h => by injection h with h; omega)))
      have HB5 := grown_below HBr hg5 (by omega)
      clear hown hown5 hg5 hC hM HBr
      go_wp2_with fail
      go_roundg (n - (k + 1))
      case measure => have := hr.out; omega
      case rel => exact ⟨k + 1, by omega, by go_num, Lib.hid rfl, HB5, hC5, hM5⟩
    · have hM2 : Hid (FunS wr (w2.heap.size + 1) k (massF l)) := Lib.hid (by
        have h1 := hM.out
        rwa [List.take_of_length_le (by have := hn.out; omega)] at h1)
      clear hM
      go_wp2_with fail
      go_loopg [44] m (fun g1 i wq => ∃ j : Nat, j ≤ m ∧ i = .int .i64 (j : Int) ∧ Hid (g1 = m - j) ∧ Below w2.heap.size w2 wq ∧ Hid (FunS wq w2.heap.size j (cntF (U.take j))) ∧ Hid (FunS wq (w2.heap.size + 1) k (massF l)))
      case atStart => exact ⟨0, Nat.zero_le _, rfl, Lib.hid rfl, HBr, hC, hM2⟩
      case round =>
        clear HBr hC hM2
        obtain ⟨j, hj, rfl, hr, HBr, hC, hM⟩ := hrel
        by_cases hlt2 : j < m
        · have hjl : Hid (j < U.length) := Lib.hid (by rw [hm.out]; exact hlt2)
          have HBw := below_then HB.out HBr
          obtain ⟨bo, off, rfl, b0, b1, b2, b3, hbo⟩ := (show RowAt encB 4 w.heap.size wr ub U from hU.out.bel (Nat.le_refl _) HBw).bun j hjl.out
          have hco := hco0.out j hjl.out
          have hcs := cnt_bound (U.take j) (U[j]'hjl.out).mark (fun x hx => hcoA.out x (List.mem_of_mem_take hx))
          have hcl : (U.take j).length ≤ 1000 := by rw [List.length_take]; omega
          have hxs := hs.out _ (List.getElem_mem hjl.out)
          have hkey := key_of (U[j]'hjl.out).mark (by unfold maxLen; omega)
          have hnx : Hid (cntF (U.take (j + 1)) = fun s => if s = (U[j]'hjl.out).mark then some (cntU (U.take j) (U[j]'hjl.out).mark + (U[j]'hjl.out).count) else cntF (U.take j) s) := Lib.hid (by rw [List.take_succ_eq_append_getElem hjl.out, cntF_snoc])
          have hget := Lib.hid (cntF_get (U.take j) (U[j]'hjl.out).mark)
          obtain ⟨x, hx⟩ : ∃ x, U[j]'hjl.out = x := ⟨_, rfl⟩
          rw [hx] at b0 b1 b2 b3 hco hcs hxs hkey hnx hget
          clear hx
          obtain ⟨tg, mk, ct, ms⟩ := x
          dsimp only at b0 b1 b2 b3 hco hcs hxs hkey hnx hget
          obtain ⟨C, hC'⟩ : ∃ C, cntU (U.take j) mk = C := ⟨_, rfl⟩
          rw [hC'] at hcs hnx hget
          clear hC'
          obtain ⟨C2, hC2⟩ : ∃ C2, C + ct = C2 := ⟨_, rfl⟩
          have z1 : IntKind.i64.wrap (C + ct) = C2 := by rw [hC2, IntWalk.i64_in _ (by omega)]
          have hwf := wf_int (x := C2) (by omega)
          rw [hC2] at hnx
          clear hC2
          go_upto_region 12 with fail
          generalize hWW : World.alloc wr _ = W3
          have kb : At W3 wr.heap.size 44 #[.string tg, .string mk, .int .i64 ct, .int .i64 ms] := by rw [← hWW]; exact At.new' rfl
          have hbW : Below wr.heap.size wr W3 := by rw [← hWW]; exact below_al (Below.refl _ _) _
          replace HBr := below_then HBr hbW
          replace hC := Lib.hid (hC.out.bel hbW)
          replace hM := Lib.hid (hM.out.bel hbW)
          have hlook := hC.out.look mk (by unfold maxLen; omega)
          rw [hget.out] at hlook
          have k1 : W3.cell? ⟨wr.heap.size, 1, none⟩ = some (.string mk) := kb.c 1
          have k2 : W3.cell? ⟨wr.heap.size, 2, none⟩ = some (.int .i64 ct) := kb.c 2
          obtain ⟨D, hown, hat⟩ := hC.out
          have hD := Lib.hid hown.isMap
          replace hat := Lib.hid hat
          have hkn : Hid (j < maxLen) := Lib.hid (by unfold maxLen; omega)
          clear hWW hbW b0 b1 b2 b3 HBw kb
          go_wp2_with (first | (at_mapUpdate; refine wpList_mapUpdate_own _ rfl _ _ _ 65 rfl 9 3 key_str Tryd.underlying65 _ w2.heap.size j _ rfl hown hkn.out _ _ _ rfl rfl hkey _ [] (plainElem_int Tryd.underlying3 hwf) ?_) | go_in)
          intro w5 hown5 hg5
          have hC5 : Hid (FunS w5 w2.heap.size (j + 1) (cntF (U.take (j + 1)))) := Lib.hid (by
            rw [hnx.out]
            exact funS_put hown5 hD.out hat.out)
          have hM5 : Hid (FunS w5 (w2.heap.size + 1) k (massF l)) := Lib.hid (hM.out.same (hg5.block _ hM.out.lt (fun h => by injection h with h; omega)))
          have HB5 := grown_below HBr hg5 (Nat.le_refl _)
          clear hown hown5 hg5 hC hM HBr hlook k1 k2
          go_wp2_with fail
          go_roundg (m - (j + 1))
          case measure => have := hr.out; omega
          case rel => exact ⟨j + 1, by omega, by go_num, Lib.hid rfl, HB5, hC5, hM5⟩
        · have hC2 : Hid (FunS wr w2.heap.size j (cntF U)) := Lib.hid (by
            have h1 := hC.out
            rwa [List.take_of_length_le (by have := hm.out; omega)] at h1)
          clear hC
          go_wp2_with fail
          go_loopg [58, 12] n (fun g1 i v12 wq => ∃ i0 : Nat, i0 ≤ n ∧ i = .int .i64 (i0 : Int) ∧ v12 = .slice none 0 0 ∧ Hid (g1 = n - i0) ∧ Below w2.heap.size w2 wq ∧ Hid (FunS wq w2.heap.size j (cntF U)) ∧ Hid (FunS wq (w2.heap.size + 1) k (massF l)))
          case atStart => exact ⟨0, Nat.zero_le _, rfl, rfl, Lib.hid rfl, HBr, hC2, hM⟩
          case round =>
            clear HBr hC2 hM
            obtain ⟨i, hi, rfl, rfl, hr, HBr, hC, hM⟩ := hrel
            by_cases hlt3 : i < n
            · have hkl : Hid (i < l.length) := Lib.hid (by rw [hn.out]; exact hlt3)
              have hkd : Hid (i < ds.length) := Lib.hid (by rw [hdn.out]; exact hkl.out)
              have hkz : Hid (i < (l.zip ds).length) := Lib.hid (by rw [hzl.out]; exact hkl.out)
              have HBw := below_then HB.out HBr
              obtain ⟨bb, off, rfl, c0, c1, c2, c3, c4⟩ := (hrow.out.bel (Nat.le_refl _) HBw).bar i hkz.out
              simp only [List.getElem_zip] at c0 c1 c2 c3 c4
              have hsz := hmz.out _ (List.getElem_mem hkl.out)
              have hct := hc1.out _ (List.getElem_mem hkl.out)
              have hget := Lib.hid (cntF_get U (l[i]'hkl.out).mark)
              rw [hct] at hget
              obtain ⟨da, dn, dc, hdv⟩ := hds.out i hkl.out hkd.out
              obtain ⟨x, hx⟩ : ∃ x, l[i]'hkl.out = x := ⟨_, rfl⟩
              rw [hx] at c0 c1 c2 c3 hsz hget
              rw [hdv] at c4
              clear hdv hx hct
              obtain ⟨mk, sz, ct, c, dd⟩ := x
              dsimp only at c0 c1 c2 c3 hsz hget
              have g1 : decide (ct < ct) = false := decide_eq_false (by omega)
              go_upto_region 18 with fail
              generalize hWW : World.alloc wr _ = W3
              have kb : At W3 wr.heap.size 50 #[.string mk, .int .i64 sz, .int .i64 ct, .int .i64 c, .slice da dn dc] := by rw [← hWW]; exact At.new' rfl
              have hbW : Below wr.heap.size wr W3 := by rw [← hWW]; exact below_al (Below.refl _ _) _
              replace HBr := below_then HBr hbW
              replace hC := Lib.hid (hC.out.bel hbW)
              replace hM := Lib.hid (hM.out.bel hbW)
              have hlook := hC.out.look mk (by unfold maxLen; omega)
              rw [hget.out] at hlook
              have k0 : W3.cell? ⟨wr.heap.size, 0, none⟩ = some (.string mk) := kb.c 0
              have k2 : W3.cell? ⟨wr.heap.size, 2, none⟩ = some (.int .i64 ct) := kb.c 2
              clear hWW hbW c0 c1 c2 c3 c4 HBw kb
              go_wp2_with fail
              go_roundg (n - (i + 1))
              case measure => have := hr.out; omega
              case rel => exact ⟨i + 1, by omega, by go_num, rfl, Lib.hid rfl, HBr, hC, hM⟩
            · go_wp2_with fail
              go_loopg [91, 12] m (fun g1 i v12 wq => ∃ i0 : Nat, i0 ≤ m ∧ i = .int .i64 (i0 : Int) ∧ v12 = .slice none 0 0 ∧ Hid (g1 = m - i0) ∧ Below w2.heap.size w2 wq ∧ Hid (FunS wq (w2.heap.size + 1) k (massF l)))
              case atStart => exact ⟨0, Nat.zero_le _, rfl, rfl, Lib.hid rfl, HBr, hM⟩
              case round =>
                clear HBr hC hM
                obtain ⟨i, hi, rfl, rfl, hr, HBr, hM⟩ := hrel
                by_cases hlt4 : i < m
                · have hjl : Hid (i < U.length) := Lib.hid (by rw [hm.out]; exact hlt4)
                  have HBw := below_then HB.out HBr
                  obtain ⟨bo, off, rfl, b0, b1, b2, b3, hbo⟩ := (show RowAt encB 4 w.heap.size wr ub U from hU.out.bel (Nat.le_refl _) HBw).bun i hjl.out
                  have hco := hco0.out i hjl.out
                  have hxs := hs.out _ (List.getElem_mem hjl.out)
                  obtain ⟨b, hb, hbm, hbs⟩ := hc2.out _ (List.getElem_mem hjl.out)
                  have hms := Lib.hid (massF_at hnd.out hb)
                  rw [← hbm] at hms
                  have hml := mass_le (barV_legs (hallA.out b hb))
                  obtain ⟨M, hM'⟩ : ∃ M, massB b = M := ⟨_, rfl⟩
                  rw [hM'] at hms hml hbs
                  obtain ⟨x, hx⟩ : ∃ x, U[i]'hjl.out = x := ⟨_, rfl⟩
                  rw [hx] at b0 b1 b2 b3 hco hxs hms hbs
                  clear hx hM' hb hbm
                  obtain ⟨tg, mk, ct, ms⟩ := x
                  dsimp only at b0 b1 b2 b3 hco hxs hms hbs
                  have hbd : 0 ≤ ct * M ∧ ct * M ≤ 1000 * 10000000 := ⟨Int.mul_nonneg (by omega) (by omega), Int.mul_le_mul (by omega) (by omega) (by omega) (by omega)⟩
                  have z1 : IntKind.i64.wrap (ct * M) = ms := by rw [hbs, IntWalk.i64_in _ (by omega)]
                  have g1 : (ms != ms) = false := by simp
                  clear hbs hbd
                  go_upto_region 27 with fail
                  generalize hWW : World.alloc wr _ = W3
                  have kb : At W3 wr.heap.size 44 #[.string tg, .string mk, .int .i64 ct, .int .i64 ms] := by rw [← hWW]; exact At.new' rfl
                  have hbW : Below wr.heap.size wr W3 := by rw [← hWW]; exact below_al (Below.refl _ _) _
                  replace HBr := below_then HBr hbW
                  replace hM := Lib.hid (hM.out.bel hbW)
                  have hlook := hM.out.look_ok mk (by unfold maxLen; omega)
                  rw [hms.out] at hlook
                  simp only [Option.getD_some, Option.isSome_some] at hlook
                  have k1 : W3.cell? ⟨wr.heap.size, 1, none⟩ = some (.string mk) := kb.c 1
                  have k2 : W3.cell? ⟨wr.heap.size, 2, none⟩ = some (.int .i64 ct) := kb.c 2
                  have k3 : W3.cell? ⟨wr.heap.size, 3, none⟩ = some (.int .i64 ms) := kb.c 3
                  clear hWW hbW b0 b1 b2 b3 HBw kb
                  go_wp2_with fail
                  go_roundg (m - (i + 1))
                  case measure => have := hr.out; omega
                  case rel => exact ⟨i + 1, by omega, by go_num, rfl, Lib.hid rfl, HBr, hM⟩
                · have HE := Lib.hid (below_then HB.out HBr)
                  go_wp2_with fail
                  exact bodyPost_ret (v := .tuple #[.slice none 0 0, .int .i64 0]) (by simp [results, Tryd.results7, go_sem]) rfl ⟨rfl, HE.out⟩
end Go.Proofs.YtjlkbmaigcgnbaaDoor
