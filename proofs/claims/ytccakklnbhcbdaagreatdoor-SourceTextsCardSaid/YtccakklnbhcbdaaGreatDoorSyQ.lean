/- source: SourceTexts, the walk. -/
import Derived.Test.YtccakklnbhcbdaaGreatDoorSyP
import Derived.Test.YtccakklnbhcbdaaGreatDoorSyG
import Derived.Test.YtccakklnbhcbdaaGreatDoorQk
set_option linter.unusedVariables false
set_option linter.unusedSimpArgs false
namespace Go.Proofs.YtccakklnbhcbdaaGreatDoor
open Go.ChangeShapes Go.WideShapes Go.ChangeAt Go.RowKit

theorem take_load_row {P : Program} {a : Act} {o : Oper} {w : World} (ty : TypeId) (x : Operand) (ho : o.op = .load ty x) (g : Nat) (hx : a.eval x = .pointer (some ⟨g, 0, none⟩)) (t : TypeId) (cs : Array Value) (fr : Nat × Nat) (d : TypeDesc) (hg : w.heap[g]? = some (.cells cs t fr))
    (hu : P.underlying ty = some d) (hd : (match d with | .struct _ | .array _ _ => true | _ => false) = true) (hi : (P.info? ty).map (·.size) = some cs.size) : Sem.run P (execOp a.eval o) w = .ok (.value (.agg cs)) w := by
  unfold execOp
  simp only [ho, hx, Instr.loadAt, Instr.sureAddr, Sem.run_bind, Sem.run_pure, Result.andThen_ok, run_loadVar_row w g t ty cs fr d hg hu hd hi]
theorem textD_many {d : Det} (hs : d.sh) (h : WrD d) : (textD d).length ≤ 300 * (manyD d + 2) := by
  have h1 := lnB_len (wMember ++ 32 :: d.name) h.mem
  have h2 := flat_le (c := 300) d.boxes (f := lnB wBox) fun n hn => by have := lnB_len wBox (h.boxes n hn); have := hs.boxes n hn; have : wBox.length = 3 := rfl; omega
  have h3 := flat_le (c := 300) d.holes (f := lnB wHole) fun n hn => by have := lnB_len wHole (h.holes n hn); have := hs.holes n hn; have : wHole.length = 4 := rfl; omega
  have h4 := lnB_len wRule h.rule
  have h5 := flat_le (c := 300) d.bars (f := fun b => lnB (wBar ++ 32 :: b.1) b.2) fun b hb => by
    obtain ⟨k1, k2, k3, k4⟩ := h.bars b hb
    have := lnB_len (wBar ++ 32 :: b.1) k4
    have := name_len k1
    rw [List.length_append, List.length_cons] at *
    have : wBar.length = 3 := rfl
    omega
  have h6 := flat_le (c := 300) d.runs (f := fun b => lnB (wRun ++ 32 :: b.1) b.2) fun b hb => by
    obtain ⟨k1, k2⟩ := h.runs b hb
    have := lnB_len (wRun ++ 32 :: b.1) k2
    have := name_len k1
    have := hs.runs b hb
    rw [List.length_append, List.length_cons] at *
    have : wRun.length = 3 := rfl
    omega
  have h7 := flat_le (c := 300) d.laps (f := lnB wLap) fun n hn => by have := lnB_len wLap (h.laps n hn); have := hs.laps n hn; have : wLap.length = 3 := rfl; omega
  have h8 : (d.dems.flatMap fun x => lnB (wDemand ++ 32 :: x.1) x.2.1 ++ x.2.2.flatMap (lnB wStep)).length ≤ 300 * (d.dems.length + (d.dems.map fun x => x.2.2.length).sum) := by
    have key : ∀ l : List (List UInt8 × List Int × List (List Int)), (∀ x ∈ l, x ∈ d.dems) → (l.flatMap fun x => lnB (wDemand ++ 32 :: x.1) x.2.1 ++ x.2.2.flatMap (lnB wStep)).length ≤ 300 * (l.length + (l.map fun x => x.2.2.length).sum) := by
      intro l
      induction l with
      | nil => intro _; exact Nat.zero_le _
      | cons x l ih =>
        intro hl
        have hx := hl x (by simp)
        have ih := ih fun y hy => hl y (by simp [hy])
        obtain ⟨k1, k2, k3, k4⟩ := h.dems x hx
        obtain ⟨s1, s2⟩ := hs.dems x hx
        have a1 := lnB_len (wDemand ++ 32 :: x.1) k2
        have a2 := flat_le (c := 300) x.2.2 (f := lnB wStep) fun n hn => by have := lnB_len wStep (k4 n hn); have := s2 n hn; have : wStep.length = 4 := rfl; omega
        have a3 := name_len k1
        have : wDemand.length = 6 := rfl
        rw [List.length_append, List.length_cons] at a1
        rw [List.flatMap_cons, List.length_append, List.length_append, List.map_cons, List.sum_cons, List.length_cons]
        omega
    exact key d.dems fun x hx => hx
  have e1 := hs.mem
  have e2 := hs.rule
  have e3 := name_len h.nm
  have f1 : wMember.length = 6 := rfl
  have f2 : wRule.length = 4 := rfl
  rw [List.length_append, List.length_cons] at h1
  unfold textD manyD
  simp only [List.length_append]
  omega

set_option maxRecDepth 100000 in
set_option maxHeartbeats 4000000 in
theorem sourceTexts_walk (d : Det) (p : PV) (hs : d.shp) (hf : d.few) (w : World) (hv : DetV w d p) (he : Env w) : Calls Tryz.prog 3 #[.agg (detC d p)] w fun e w' => e = .returned (.bool true) ∧ Below w.heap.size w w' := by
  have HG : Hid (∀ w', Below w.heap.size w w' → Calls Tryz.prog 10 #[.agg (detC d p)] w' (GreatE d w')) := Lib.hid fun w' hb => great_any d p hs hf w' (hv.up hb)
  have HT : Hid (d.sh → ∀ w', Below w.heap.size w w' → Calls Tryz.prog 11 #[.agg (detC d p)] w' fun e w2 => e = .returned (.tuple #[.string ⟨(textR d).1.toArray⟩, .int .i64 (textR d).2]) ∧ Below w'.heap.size w' w2) := Lib.hid fun h w' hb => text_any d p h w' (hv.up hb) (he.bel hb)
  have HW : Hid (d.sh → ∀ w', Below w.heap.size w w' → Calls Tryz.prog 12 #[.agg (detC d p)] w' fun e w2 => e = .returned (.bool (wrD d)) ∧ Below w'.heap.size w' w2) := Lib.hid fun h w' hb => writable_any d p h w' (hv.up hb)
  have HR : Hid (d.sh → ∀ w', Below w.heap.size w w' → Calls Tryz.prog 13 #[.agg (detC d p)] w' fun e w2 => e = .returned (.bool (wrD d)) ∧ Below w'.heap.size w' w2) := Lib.hid fun h w' hb => rwritable_any d p h w' (hv.up hb)
  have HX : Hid (d.sh → wrD d = true → ∀ w', Below w.heap.size w w' → Calls Tryz.prog 14 #[.agg (detC d p)] w' fun e w2 => e = .returned (.string ⟨(textD d).toArray⟩) ∧ Below w'.heap.size w' w2) := Lib.hid fun h hw w' hb => rtext_any d p h w' (hv.up hb) hw
  have h1c := detV_one hv
  have hsz := detC_size d p
  have hsh := hs
  replace he := Lib.hid he
  clear hv hs hf
  generalize detC d p = cs at *
  go_enter Tryz.func3, Tryz.ntmps3
  go_upto_region 1 with fail
  generalize hWW : World.alloc w _ = WW
  have k0 : At WW w.heap.size 34 cs := by rw [← hWW]; exact At.new' rfl
  have hb0 : Below w.heap.size w WW := by rw [← hWW]; exact below_al (Below.refl _ _) _
  clear hWW
  go_wp2_with fail
  refine (awake_any WW (he.out.bel hb0)).mono ?_
  rintro e w1 ⟨rfl, hb1⟩
  have k1 := k0.bel hb1
  have hB1 := below_then hb0 hb1
  clear k0 hb0 hb1 he
  go_wp2_with (first | (refine wpList_load_row rfl 34 (.tmp 1) rfl w.heap.size (by simp [Act.eval]) 34 cs (0, 0) _ k1 Tryz.underlying34 rfl (by rw [hsz]; kernel_rfl) ?_) | fail)
  refine (HG.out w1 hB1).mono ?_
  rintro e w2 ⟨b, rfl, hb2, hG⟩
  have k2 := k1.bel hb2
  have hB2 := below_then hB1 hb2
  clear k1 hB1 hb2 HG
  cases b with
  | true =>
    go_wp2_with fail
    go_ret
    exact ⟨rfl, hB2⟩
  | false =>
    obtain ⟨hSD, hmany⟩ := hG rfl
    have hS := hsh.sh hSD
    replace HT := Lib.hid (HT.out hS)
    replace HW := Lib.hid (HW.out hS)
    replace HR := Lib.hid (HR.out hS)
    replace HX := Lib.hid (HX.out hS)
    have hT0 : wrD d = false → textR d = ([], 1) := fun h => by unfold textR; rw [h]; rfl
    have hT1 : wrD d = true → textR d = (textD d, 0) := fun h => by
      have h1 := textD_many hS ((wrD_iff d).1 h)
      have h2 := hmany h
      unfold textR
      rw [if_pos h, if_neg (by omega)]
    clear hmany hSD hsh hS hG
    generalize wrD d = Wr at *
    obtain ⟨T, hT⟩ : ∃ T : ByteArray, T = ⟨(textR d).1.toArray⟩ := ⟨_, rfl⟩
    obtain ⟨E, hE⟩ : ∃ E, (textR d).2 = E := ⟨_, rfl⟩
    rw [← hT, hE] at HT
    go_wp2_with (first | (refine wpList_load_row rfl 34 (.tmp 1) rfl w.heap.size (by simp [Act.eval]) 34 cs (0, 0) _ k2 Tryz.underlying34 rfl (by rw [hsz]; kernel_rfl) ?_) | fail)
    refine (HT.out w2 hB2).mono ?_
    rintro e w3 ⟨rfl, hb3⟩
    have k3 := k2.bel hb3
    have hB3 := below_then hB2 hb3
    clear k2 hB2 hb3 HT
    have hArm : Hid (∀ W, Below w3.heap.size w3 W → Below w.heap.size w W ∧ At W w.heap.size 34 cs) := Lib.hid fun W hb => ⟨below_then hB3 hb, k3.bel hb⟩
    replace hB3 := Lib.hid hB3
    clear hArm
    replace hT := Lib.hid hT
    replace hE := Lib.hid hE
    go_upto_region 6 with fail
    refine wp_region_noPanic ?_
    refine wp_region_held_drew (S := fun W => At W w.heap.size 34 cs) (by kernel_rfl) ?_ (fun hHeld => ?_)
    · exact k3.bel (below_drew (Below.refl _ _))
    refine wpAnyH_take (i := 0) (v := .agg cs) (by simp only [List.getElem?_toArray, List.getElem?_cons_zero]; rfl) (by kernel_rfl) (by kernel_rfl) (by kernel_rfl) (fun _ _ _ h => h) (Or.inl ⟨by rfl, ?_⟩) (by assumption) ?_
    · exact fun W hSW => take_load_row 34 (.tmp 1) rfl w.heap.size (by simp [Act.eval]) 34 cs (0, 0) _ hSW Tryz.underlying34 rfl (by rw [hsz]; kernel_rfl)
    (try simp only [Act.put, List.setIfInBounds_toArray, List.set_cons_zero, List.set_cons_succ])
    refine wpAnyH_take (i := 2) (v := .agg cs) (by simp only [List.getElem?_toArray, List.getElem?_cons_succ, List.getElem?_cons_zero]; rfl) (by kernel_rfl) (by kernel_rfl) (by kernel_rfl) (fun _ _ _ h => h) (Or.inl ⟨by rfl, ?_⟩) (by assumption) ?_
    · exact fun W hSW => take_load_row 34 (.tmp 1) rfl w.heap.size (by simp [Act.eval]) 34 cs (0, 0) _ hSW Tryz.underlying34 rfl (by rw [hsz]; kernel_rfl)
    (try simp only [Act.put, List.setIfInBounds_toArray, List.set_cons_zero, List.set_cons_succ])
    refine wpAnyH_ready (rs := [1]) (by kernel_rfl) (by simp) ?_
    refine AllReadyH.cons (i := 1) (by simp only [List.getElem?_toArray, List.getElem?_cons_succ, List.getElem?_cons_zero]; rfl) (fun K hK => ?_) ?_
    · go_simp
      go_at_call 12
      refine (HW.out _ (below_then hB3.out (below_drew (Below.refl _ _)))).mono ?_
      rintro e w4 ⟨rfl, hb4⟩
      (try go_wp2_with fail)
      refine hK.out _ _ ?_ (fun hHeld => ?_)
      · (try dsimp only); exact hHeld.bel hb4
      clear hK K
      (try simp only [Act.put, List.setIfInBounds_toArray, List.set_cons_zero, List.set_cons_succ])
      refine wpAnyH_ready (rs := [3]) (by kernel_rfl) (by simp) ?_
      refine AllReadyH.cons (i := 3) (by simp only [List.getElem?_toArray, List.getElem?_cons_succ, List.getElem?_cons_zero]; rfl) (fun K hK => ?_) ?_
      · go_simp
        go_at_call 13
        refine (HR.out _ (below_then (below_then hB3.out (below_drew (Below.refl _ _))) hb4)).mono ?_
        rintro e w5 ⟨rfl, hb5⟩
        (try go_wp2_with fail)
        refine hK.out _ _ ?_ (fun hHeld => ?_)
        · (try dsimp only); exact hHeld.bel hb5
        clear hK K
        (try simp only [Act.put, List.setIfInBounds_toArray, List.set_cons_zero, List.set_cons_succ])
        refine wpAnyH_ready (rs := [4]) (by kernel_rfl) (by simp) ?_
        refine AllReadyH.cons (i := 4) (by simp only [List.getElem?_toArray, List.getElem?_cons_succ, List.getElem?_cons_zero]; rfl) (fun K hK => ?_) ?_
        · go_simp
          refine hK.out _ _ ?_ (fun hHeld => ?_)
          · (try dsimp only); exact hHeld
          clear hK K
          (try simp only [Act.put, List.setIfInBounds_toArray, List.set_cons_zero, List.set_cons_succ])
          refine wpAnyH_done (by kernel_rfl) ?_ _
          refine NoPanic.normal ?_
          have hB6 := Lib.hid (below_then (below_then (below_then hB3.out (below_drew (Below.refl _ _))) hb4) hb5)
          have k6 := (((k3.bel (below_drew (Below.refl _ _))).bel hb4).bel hb5)
          clear hHeld hb4 hb5 k3
          go_wp2_with (first | (refine wpList_load_row rfl 34 (.tmp 1) rfl w.heap.size (by simp [Act.eval]) 34 cs (0, 0) _ k6 Tryz.underlying34 rfl (by rw [hsz]; kernel_rfl) ?_) | fail)
          refine (HR.out w5 hB6.out).mono ?_
          rintro e w7 ⟨rfl, hb7⟩
          have hB7 := Lib.hid (below_then hB6.out hb7)
          have k7 := k6.bel hb7
          clear k6 hb7
          cases Wr with
          | false =>
            have hTR := hT0 rfl
            obtain rfl : T = ⟨#[]⟩ := by rw [hT.out, hTR]
            obtain rfl : E = 1 := by rw [← hE.out, hTR]
            clear hTR
            go_wp2_with fail
            go_ret
            exact ⟨rfl, hB7.out⟩
          | true =>
            have hTR := hT1 rfl
            have hTE : T = ⟨(textD d).toArray⟩ := by rw [hT.out, hTR]
            obtain rfl : E = 0 := by rw [← hE.out, hTR]
            have HY : Hid (∀ w', Below w.heap.size w w' → Calls Tryz.prog 14 #[.agg cs] w' fun e w2 => e = .returned (.string T) ∧ Below w'.heap.size w' w2) := Lib.hid fun w' hb => by rw [hTE]; exact HX.out rfl w' hb
            clear hTR hTE hT
            go_upto_region 10 with fail
            refine wp_region_lit ?_
            refine wpList_plain rfl fun K hK => ?_
            go_simp
            refine hK _ _ ?_
            clear hK K
            refine wpList_plain rfl fun K hK => ?_
            go_simp
            refine hK _ _ ?_
            clear hK K
            refine wpList_plain rfl fun K hK => ?_
            go_simp
            refine hK _ _ ?_
            clear hK K
            refine wpList_step fun K hK => ?_
            rw [if_pos (by rfl)]
            go_simp
            refine hK _ _ ?_
            clear hK K
            refine wpList_load_row_w (by rfl) 34 (.tmp 1) rfl w.heap.size (by simp [Act.eval, Act.put]) 34 cs (0, 0) _ k7 Tryz.underlying34 rfl (by rw [hsz]; kernel_rfl) ?_
            go_wp2_with fail
            refine (HY.out w7 hB7.out).mono ?_
            rintro e w8 ⟨rfl, hb8⟩
            have hB8 := Lib.hid (below_then hB7.out hb8)
            clear hb8
            go_wp2_with fail
            go_ret
            exact ⟨rfl, hB8.out⟩
        exact AllReadyH.nil
      exact AllReadyH.nil
    exact AllReadyH.nil

end Go.Proofs.YtccakklnbhcbdaaGreatDoor
