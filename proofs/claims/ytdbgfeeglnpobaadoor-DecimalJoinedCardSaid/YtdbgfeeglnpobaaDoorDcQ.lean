/- decimal.Parse. -/
import Derived.Test.YtdbgfeeglnpobaaDoorDcP
import Derived.Deep.LoopGhost
import Derived.Deep.DeepCutAuto
import Derived.Deep.CutBlock
import Derived.Lib.ConvBytes
import Derived.Lib.AtoiErrMem
set_option linter.unusedVariables false
namespace Go.Proofs.YtdbgfeeglnpobaaDoor
open Go.ChangeShapes Go.WideShapes Go.ChangeAt Go.RowKit

theorem conv_ex (w : World) (X : ByteArray) : ∃ (cap : Nat) (W : World), (convert 9 42 (.string X)).run Tryd.prog w = .ok (.slice (some ⟨w.heap.size, 0, none⟩) X.size cap) W ∧
    Hid ((∀ j (hj : j < X.size), W.cell? ⟨w.heap.size, j, none⟩ = some (.int .u8 (((by_ X)[j]'hj).toNat : Int))) ∧ Below w.heap.size w W) :=
  ⟨_, _, Lib.run_convert_string_bytes w _ _ 5 X Tryd.underlying9 Tryd.underlying42 Tryd.underlying5, Lib.hid ⟨fun j hj => by
    rw [Lib.bytesWorld_cell w _ X j hj, List.getD, List.getElem?_eq_getElem (show j < X.data.toList.length from hj)]
    rfl, Lib.bytesWorld_below w _ X⟩⟩
theorem badP_eq (wh pt : ByteArray) (po : Bool) (k : Nat) : badP (by_ wh) (by_ pt) po k = (!allD (by_ wh) || (decide (1 < wh.size) && decide (((by_ wh).headD 0).toNat = 48)) || (po && (!allD (by_ pt) || decide (k < pt.size)))) := rfl

set_option maxRecDepth 100000 in
set_option maxHeartbeats 2000000 in
theorem parse_core (s rest wh pt r X : ByteArray) (k : Nat) (neg po aw ap b : Bool) (k9 : k ≤ 9) (bw : wh.size ≤ 1000000) (bp : pt.size ≤ 1000000) (br : r.size ≤ 9) (hX : wh ++ pt ++ r = X) (R : Int × Int)
    (HP : Hid (∀ w, Calls Tryd.prog 32 #[.int .i64 (k : Int)] w fun e w' => e = .returned (.bool true) ∧ w = w'))
    (HX : Hid (∀ w, Calls Tryd.prog 36 #[.string s, .string ⟨#[45]⟩] w fun e w' => e = .returned (.tuple #[.string rest, .bool neg]) ∧ w = w'))
    (HC : Hid (∀ w, Calls Tryd.prog 37 #[.string rest, .string ⟨#[46]⟩] w fun e w' => e = .returned (.tuple #[.string wh, .string pt, .bool po]) ∧ Below w.heap.size w w'))
    (HAw : Hid (∀ w, Calls Tryd.prog 38 #[.string wh] w fun e w' => e = .returned (.bool aw) ∧ w = w'))
    (HAp : Hid (∀ w, Calls Tryd.prog 38 #[.string pt] w fun e w' => e = .returned (.bool ap) ∧ w = w'))
    (hb : Hid (b = (!aw || (decide (1 < wh.size) && decide (((by_ wh).headD 0).toNat = 48)) || (po && (!ap || decide (k < pt.size))))))
    (hgood : Hid (b = false → pt.size ≤ k ∧ (by_ X).all isDig = true)) (HR : Hid (pt.size ≤ k → ∀ w, Calls Tryd.prog 20 #[.string ⟨#[48]⟩, .int .i64 ((k : Int) - (pt.size : Int))] w fun e w' => e = .returned (.string r) ∧ Below w.heap.size w w'))
    (hR : Hid (R = if b then (0, 7) else parV neg (by_ X))) (w : World) :
    Calls Tryd.prog 15 #[.string s, .int .i64 (k : Int)] w fun e w' => e = .returned (.tuple #[.int .i64 R.1, .int .i64 R.2]) ∧ Below w.heap.size w w' := by
  replace hX := Lib.hid hX
  go_enter Tryd.func15, Tryd.ntmps15
  go_wp2_with fail
  refine (HP.out _).mono ?_
  rintro e w' ⟨rfl, rfl⟩
  go_wp2_with fail
  refine (HX.out _).mono ?_
  rintro e w' ⟨rfl, rfl⟩
  go_wp2_with fail
  refine (HC.out _).mono ?_
  rintro e w1 ⟨rfl, HB⟩
  go_upto_region 5 with fail
  go_cut [55] (fun t wn => t = .bool b ∧ Below w.heap.size w wn)
  case first =>
    cases aw
    · have e : Hid (b = true) := Lib.hid (by rw [hb.out]; rfl)
      go_wp2_with fail
      refine (HAw.out _).mono ?_
      rintro e' w' ⟨rfl, rfl⟩
      go_wp2_with fail
      go_meet
      exact ⟨by rw [e.out], HB⟩

    · by_cases c1 : 1 < wh.size
      · obtain ⟨c, hc⟩ : ∃ c, wh[0] = c := ⟨_, rfl⟩
        have hhd := Lib.hid (by have := (drop_head wh 0 (by omega) c hc).1; rwa [List.drop_zero] at this)
        cases c2 : ((c.toNat : Int) == 48)
        · have c2' := beq_no (n := 48) c2
          have hb' : Hid (b = (po && (!ap || decide (k < pt.size)))) := Lib.hid (by rw [hb.out, hhd.out]; simp [c2'])
          clear hb c2'
          have hb := hb'
          clear hb'
          cases po
          · have e : Hid (b = false) := Lib.hid (by rw [hb.out]; simp)
            go_wp2_with fail
            refine (HAw.out _).mono ?_
            rintro e' w' ⟨rfl, rfl⟩
            go_wp2_with fail
            go_meet
            exact ⟨by rw [e.out], HB⟩
          · cases ap
            · have e : Hid (b = true) := Lib.hid (by rw [hb.out]; simp)
              go_wp2_with fail
              refine (HAw.out _).mono ?_
              rintro e' w' ⟨rfl, rfl⟩
              go_wp2_with fail
              refine (HAp.out _).mono ?_
              rintro e' w' ⟨rfl, rfl⟩
              go_wp2_with fail
              go_meet
              exact ⟨by rw [e.out], HB⟩
            · by_cases c3 : k < pt.size
              · have e : Hid (b = true) := Lib.hid (by rw [hb.out]; simp [c3])
                go_wp2_with fail
                refine (HAw.out _).mono ?_
                rintro e' w' ⟨rfl, rfl⟩
                go_wp2_with fail
                refine (HAp.out _).mono ?_
                rintro e' w' ⟨rfl, rfl⟩
                go_wp2_with fail
                go_meet
                exact ⟨by rw [e.out], HB⟩
              · have e : Hid (b = false) := Lib.hid (by rw [hb.out]; simp [c3])
                go_wp2_with fail
                refine (HAw.out _).mono ?_
                rintro e' w' ⟨rfl, rfl⟩
                go_wp2_with fail
                refine (HAp.out _).mono ?_
                rintro e' w' ⟨rfl, rfl⟩
                go_wp2_with fail
                go_meet
                exact ⟨by rw [e.out], HB⟩

        · have c2' := Lib.hid (beq_yes (n := 48) c2)
          have e : Hid (b = true) := Lib.hid (by rw [hb.out]; rw [hhd.out, c2'.out]; simp [c1])
          go_wp2_with fail
          refine (HAw.out _).mono ?_
          rintro e' w' ⟨rfl, rfl⟩
          go_wp2_with fail
          go_meet
          exact ⟨by rw [e.out], HB⟩

      · have hb' : Hid (b = (po && (!ap || decide (k < pt.size)))) := Lib.hid (by rw [hb.out]; simp [c1])
        clear hb
        have hb := hb'
        clear hb'
        cases po
        · have e : Hid (b = false) := Lib.hid (by rw [hb.out]; simp)
          go_wp2_with fail
          refine (HAw.out _).mono ?_
          rintro e' w' ⟨rfl, rfl⟩
          go_wp2_with fail
          go_meet
          exact ⟨by rw [e.out], HB⟩
        · cases ap
          · have e : Hid (b = true) := Lib.hid (by rw [hb.out]; simp)
            go_wp2_with fail
            refine (HAw.out _).mono ?_
            rintro e' w' ⟨rfl, rfl⟩
            go_wp2_with fail
            refine (HAp.out _).mono ?_
            rintro e' w' ⟨rfl, rfl⟩
            go_wp2_with fail
            go_meet
            exact ⟨by rw [e.out], HB⟩
          · by_cases c3 : k < pt.size
            · have e : Hid (b = true) := Lib.hid (by rw [hb.out]; simp [c3])
              go_wp2_with fail
              refine (HAw.out _).mono ?_
              rintro e' w' ⟨rfl, rfl⟩
              go_wp2_with fail
              refine (HAp.out _).mono ?_
              rintro e' w' ⟨rfl, rfl⟩
              go_wp2_with fail
              go_meet
              exact ⟨by rw [e.out], HB⟩
            · have e : Hid (b = false) := Lib.hid (by rw [hb.out]; simp [c3])
              go_wp2_with fail
              refine (HAw.out _).mono ?_
              rintro e' w' ⟨rfl, rfl⟩
              go_wp2_with fail
              refine (HAp.out _).mono ?_
              rintro e' w' ⟨rfl, rfl⟩
              go_wp2_with fail
              go_meet
              exact ⟨by rw [e.out], HB⟩

  case rest =>
    clear HB
    obtain ⟨rfl, HB⟩ := hcut
    cases b
    · have hpk := (hgood.out rfl).1
      have hD := Lib.hid (hgood.out rfl).2
      have hR' : Hid (R = parV neg (by_ X)) := Lib.hid (by rw [hR.out]; rfl)
      clear hR
      have HRr := Lib.hid (HR.out hpk)
      clear HR
      go_wp2_with fail
      refine (HRr.out _).mono ?_
      rintro e w2 ⟨rfl, hb2⟩
      replace HB := below_then HB hb2
      clear hb2
      obtain ⟨cap, W, hconv, hcells⟩ := conv_ex w2 X
      have hX' := hX.out
      go_wp2_with fail
      replace HB := below_then HB hcells.out.2
      replace hX := Lib.hid hX'
      clear hX' hconv
      go_loopg [11, 67] X.size (fun g v i wr => ∃ m j : Nat, j ≤ X.size ∧ v = .int .i64 (m : Int) ∧ i = .int .i64 (j : Int) ∧ Hid (g = X.size - j ∧ accP ((by_ X).drop j) m = accP (by_ X) 0 ∧ m ≤ 1152921504606846976) ∧ W = wr)
      case atStart => exact ⟨0, 0, Nat.zero_le _, rfl, rfl, Lib.hid ⟨rfl, rfl, by omega⟩, rfl⟩
      case round =>
        obtain ⟨m, j, hj, rfl, rfl, hr, rfl⟩ := hrel
        have bX : X.size ≤ 3000000 := by rw [← hX.out]; simp; omega
        by_cases hlt : j < X.size
        · obtain ⟨c, hc⟩ : ∃ c, (by_ X)[j]'hlt = c := ⟨_, rfl⟩
          have hcell := hcells.out.1 j hlt
          rw [hc] at hcell
          have hdig : isDig c = true := by rw [← hc]; exact all_take isDig hD.out j hlt
          have hdb := isDig_bd hdig
          have hdrop : Hid ((by_ X).drop j = c :: (by_ X).drop (j + 1)) := Lib.hid (by rw [← hc]; exact List.drop_eq_getElem_cons hlt)
          clear hc hdig
          obtain ⟨d, hd⟩ : ∃ d, c.toNat - 48 = d := ⟨_, rfl⟩
          have hm := hr.out.2.2
          have e1 : IntKind.u8.wrap ((c.toNat : Int) - 48) = (d : Int) := by rw [IntKind.wrap_u8]; omega
          obtain ⟨M, hM⟩ : ∃ M, 1152921504606846976 - d = M := ⟨_, rfl⟩
          have e3 : IntKind.i64.wrap (1152921504606846976 - (d : Int)) = (M : Int) := by rw [wrap_in (by omega)]; omega
          obtain ⟨Q, hQ⟩ : ∃ Q, M / 10 = Q := ⟨_, rfl⟩
          have e4 : ((M : Int)).tdiv 10 = (Q : Int) := by rw [Int.tdiv_eq_ediv_of_nonneg (by omega)]; omega
          have e4w : IntKind.i64.wrap (Q : Int) = (Q : Int) := wrap_in (by omega)
          have hd9 : d ≤ 9 := by omega
          have hacc : Hid (accP ((by_ X).drop j) m = if Q < m then none else accP ((by_ X).drop (j + 1)) (10 * m + d)) := Lib.hid (by rw [hdrop.out, accP_cons, hd, hM, hQ])
          by_cases cQ : (Q : Int) < (m : Int)
          · have hE : Hid (R = (0, 5)) := Lib.hid (by
              rw [hR'.out]
              unfold parV
              rw [← hr.out.2.1, hacc.out, if_pos (by omega)])
            replace hM := Lib.hid hM
            replace hQ := Lib.hid hQ
            replace hd := Lib.hid hd
            clear hm hdb
            go_wp2_with fail
            go_ret2
            exact ⟨by rw [hE.out]; rfl, HB⟩
          · obtain ⟨Y, hY⟩ : ∃ Y, 10 * m = Y := ⟨_, rfl⟩
            obtain ⟨Z, hZ⟩ : ∃ Z, Y + d = Z := ⟨_, rfl⟩
            have hZb : Z ≤ 1152921504606846976 := by omega
            have e5 : IntKind.i64.wrap (10 * (m : Int)) = (Y : Int) := by rw [wrap_in (by omega)]; omega
            have e6 : IntKind.i64.wrap ((Y : Int) + (d : Int)) = (Z : Int) := by rw [wrap_in (by omega)]; omega
            have hN : Hid (accP ((by_ X).drop (j + 1)) Z = accP (by_ X) 0 ∧ Z ≤ 1152921504606846976) := Lib.hid ⟨by
              rw [← hr.out.2.1, hacc.out, if_neg (by omega), hY, hZ], hZb⟩
            replace hM := Lib.hid hM
            replace hQ := Lib.hid hQ
            replace hd := Lib.hid hd
            replace hY := Lib.hid hY
            replace hZ := Lib.hid hZ
            clear hm hdb hZb
            go_wp2_with fail
            go_roundg (X.size - (j + 1))
            case measure => have := hr.out.1; omega
            case rel => exact ⟨Z, j + 1, by omega, by go_num, by go_num, Lib.hid ⟨rfl, hN.out.1, hN.out.2⟩, rfl⟩
        · have hE : Hid (R = (if neg then -(m : Int) else (m : Int), 0)) := Lib.hid (by
            rw [hR'.out]
            unfold parV
            rw [← hr.out.2.1, List.drop_of_length_le (by rw [by_len]; omega)]
            rfl)
          have e7 : IntKind.i64.wrap (-(m : Int)) = -(m : Int) := wrap_in (by have := hr.out.2.2; omega)
          cases neg
          · go_wp2_with fail
            go_ret2
            exact ⟨by rw [hE.out]; rfl, HB⟩
          · go_wp2_with fail
            go_ret2
            exact ⟨by rw [hE.out]; rfl, HB⟩
    · have hE : Hid (R = (0, 7)) := Lib.hid (by rw [hR.out]; rfl)
      go_wp2_with fail
      go_ret2
      exact ⟨by rw [hE.out]; rfl, HB⟩

end Go.Proofs.YtdbgfeeglnpobaaDoor
