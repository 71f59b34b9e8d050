/- The reference's Parse. -/
import Derived.Test.YtdbgfeeglnpobaaDoorMPar2
import Derived.Test.YtdbgfeeglnpobaaDoorDcQ
import Derived.Deep.LoopGhost
import Derived.Deep.DeepCutAuto
import Derived.Deep.CutBlock
set_option linter.unusedVariables false
namespace Go.Proofs.YtdbgfeeglnpobaaDoor
open Go.ChangeShapes Go.WideShapes Go.ChangeAt Go.RowKit

theorem pre45 (s : ByteArray) : Lib.hasPrefix (by_ s) [45] = (decide (0 < s.size) && decide (((by_ s).headD 0).toNat = 45)) := by
  have hl : (by_ s).length = s.size := rfl
  rw [← hl]
  cases by_ s with
  | nil => rfl
  | cons c l =>
    simp only [Lib.hasPrefix, List.isPrefixOf, List.length_cons, List.headD_cons]
    cases h : (45 : UInt8) == c
    · have : ¬ (45 : UInt8) = c := by simpa using h
      have : ¬ c.toNat = 45 := fun e => this (UInt8.toNat_inj.1 e.symm)
      simp [this]
    · have : (45 : UInt8) = c := by simpa using h
      subst this
      simp
theorem trim45 (s : ByteArray) : Lib.trimPrefix (by_ s) [45] = (by_ s).drop (if Lib.hasPrefix (by_ s) [45] then 1 else 0) := by
  unfold Lib.trimPrefix
  cases Lib.hasPrefix (by_ s) [45] <;> rfl
theorem not_all {l : List UInt8} {j : Nat} {c : UInt8} (hlt : j < l.length) (hc : l[j]'hlt = c) (hD : isDig c = false) : l.all isDig = false := by
  cases hall : l.all isDig
  · rfl
  · have := all_take isDig hall j hlt
    rw [hc, hD] at this
    exact absurd this (by decide)
theorem size_by (q : ByteArray) : q.size = (by_ q).length := rfl

set_option maxRecDepth 100000 in
set_option maxHeartbeats 4000000 in
theorem refparse_any (s : ByteArray) (hs : s.size ≤ 1000000) (k : Nat) (k9 : k ≤ 9) (w : World) :
    Calls Tryd.prog 16 #[.string s, .int .i64 (k : Int)] w fun e w' => e = .returned (pav (parS (by_ s) k)) ∧ Below w.heap.size w w' := by
  obtain ⟨R, hR0⟩ : ∃ R, parS (by_ s) k = R := ⟨_, rfl⟩
  rw [hR0]
  rw [parS_ref] at hR0
  have hl : (by_ s).length = s.size := rfl
  have hpre := pre45 s
  have htr := trim45 s
  generalize Lib.hasPrefix (by_ s) [45] = neg at *
  obtain ⟨f, hf⟩ : ∃ f : Nat, (if neg then 1 else 0) = f := ⟨_, rfl⟩
  rw [hf] at htr
  generalize Lib.trimPrefix (by_ s) [45] = T at *
  have HRR : Hid (R = if rpBad T k then (0, 7) else parV neg (rpX T k)) := Lib.hid hR0.symm
  clear hR0
  have hfb : f ≤ 1 ∧ f ≤ s.size := by
    rw [← hf]
    cases neg
    · exact ⟨by decide, Nat.zero_le _⟩
    · have h := hpre.symm
      simp only [Bool.and_eq_true, decide_eq_true_eq] at h
      exact ⟨by decide, by have := h.1; show 1 ≤ s.size; omega⟩
  have hTl : T.length = s.size - f := by rw [htr, List.length_drop, hl]
  have hal := runL_le isDig T
  obtain ⟨a, ha⟩ : ∃ a, runL isDig T = a := ⟨_, rfl⟩
  obtain ⟨E, hE⟩ : ∃ E, E = runA isDig (by_ s) f := ⟨_, rfl⟩
  have hEa : E = f + a := by rw [hE, ← ha, htr]; rfl
  have hEb : f ≤ E ∧ E ≤ s.size := by omega
  obtain ⟨wh, hwh⟩ : ∃ wh, s.extract f E = wh := ⟨_, rfl⟩
  have hw1 : Hid (by_ wh = T.take a) := Lib.hid (by
    have e := Lib.extract_data s f E
    rw [hwh] at e
    rw [show by_ wh = wh.data.toList from rfl, e, htr, hEa, show f + a - f = a from by omega])
  have hws : wh.size = a := by
    rw [size_by, hw1.out, List.length_take, Nat.min_eq_left (by omega)]
  obtain ⟨part, hpt⟩ : ∃ p, s.extract (E + 1) s.size = p := ⟨_, rfl⟩
  have hp1 : Hid (by_ part = rpPart T) := Lib.hid (by
    rw [← hpt, by_drop, hEa]
    unfold rpPart
    rw [ha, htr, List.drop_drop]
    congr 1)
  have hps : part.size = s.size - (E + 1) := by rw [← hpt, ex_size]
  have hTE : Hid (E = f + a ∧ T.length = s.size - f ∧ wh.size = a ∧ part.size = s.size - (E + 1)) := Lib.hid ⟨hEa, hTl, hws, hps⟩
  have hwb : wh.size ≤ 1000000 := by omega
  clear hEa hTl hws hps hal
  replace hwh := Lib.hid hwh
  replace hpt := Lib.hid hpt
  replace hpre := Lib.hid hpre
  replace htr := Lib.hid htr
  replace hf := Lib.hid hf
  replace ha := Lib.hid ha
  replace hE := Lib.hid hE
  clear hl
  go_enter Tryd.func16, Tryd.ntmps16
  go_upto_region 2 with fail
  go_cut [7] (fun v wn => v = .bool neg ∧ w = wn)
  case first =>
    by_cases h0 : 0 < s.size
    · obtain ⟨c, hc⟩ : ∃ c, s[0] = c := ⟨_, rfl⟩
      have hhd := (drop_head s 0 h0 c hc).1
      rw [List.drop_zero] at hhd
      cases h : ((c.toNat : Int) == 45)
      · have e : Hid (neg = false) := Lib.hid (by rw [hpre.out, hhd]; have := beq_no (n := 45) h; simp [this])
        clear hhd
        go_wp2_with fail
        go_meet
        exact ⟨by rw [e.out], rfl⟩

      · have e : Hid (neg = true) := Lib.hid (by rw [hpre.out, hhd, beq_yes (n := 45) h]; simp [h0])
        clear hhd
        go_wp2_with fail
        go_meet
        exact ⟨by rw [e.out], rfl⟩

    · have e : Hid (neg = false) := Lib.hid (by rw [hpre.out]; simp [h0])
      go_wp2_with fail
      go_meet
      exact ⟨by rw [e.out], rfl⟩

  case rest =>
    obtain ⟨rfl, rfl⟩ := hcut
    go_upto_if 24 with fail
    go_cut [6] (fun v wn => v = .int .i64 (f : Int) ∧ w = wn)
    case first =>
      cases neg
      · have e : Hid (f = 0) := Lib.hid hf.out.symm
        go_wp2_with fail
        go_meet
        exact ⟨by rw [e.out]; rfl, rfl⟩

      · have e : Hid (f = 1) := Lib.hid hf.out.symm
        go_wp2_with fail
        go_meet
        exact ⟨by rw [e.out]; rfl, rfl⟩

    case rest =>
      obtain ⟨rfl, rfl⟩ := hcut
      go_upto_block 0 with fail
      go_cut [6] (fun v wn => v = .int .i64 (E : Int) ∧ w = wn)
      case first =>
        go_wp2_with fail
        go_loopg [6] (s.size - f) (fun g i wr => ∃ k : Nat, f ≤ k ∧ k ≤ s.size ∧ i = .int .i64 (k : Int) ∧ Hid (g = s.size - k ∧ runA isDig (by_ s) k = runA isDig (by_ s) f) ∧ w = wr)
        case atStart => exact ⟨f, Nat.le_refl _, by omega, rfl, Lib.hid ⟨rfl, rfl⟩, rfl⟩
        case round =>
          obtain ⟨k, hak, hk, rfl, hr, rfl⟩ := hrel
          by_cases hlt : k < s.size
          · obtain ⟨c, hc⟩ : ∃ c, s[k] = c := ⟨_, rfl⟩
            have hc' : Hid ((by_ s)[k]'hlt = c) := Lib.hid hc
            have HD : Hid (∀ w, Calls Tryd.prog 39 #[.int .u8 (c.toNat : Int)] w fun e w' => e = .returned (.bool (isDig c)) ∧ w = w') := Lib.hid fun w => refDigit_any c w
            cases hD : isDig c
            · rw [hD] at HD
              have hw := Lib.hid hD
              clear hD
              go_wp2_with fail
              refine (HD.out _).mono ?_
              rintro e w' ⟨rfl, rfl⟩
              have hR : runA isDig (by_ s) f = k := by rw [← hr.out.2]; exact runA_no hlt (by rw [hc'.out]; exact hw.out)
              go_wp2_with fail
              go_meet
              exact ⟨by rw [hE.out, hR], rfl⟩
            · rw [hD] at HD
              have hw := Lib.hid hD
              clear hD
              go_wp2_with fail
              refine (HD.out _).mono ?_
              rintro e w' ⟨rfl, rfl⟩
              go_wp2_with fail
              go_roundg (s.size - (k + 1))
              case measure => have := hr.out.1; omega
              case rel => exact ⟨k + 1, by omega, by omega, by go_num, Lib.hid ⟨rfl, by rw [runA_yes hlt (by rw [hc'.out]; exact hw.out)]; exact hr.out.2⟩, rfl⟩
          · have hR : runA isDig (by_ s) f = k := by rw [← hr.out.2]; exact runA_end (by rw [by_len]; omega)
            go_wp2_with fail
            go_meet
            exact ⟨by rw [hE.out, hR], rfl⟩

      case rest =>
        obtain ⟨rfl, rfl⟩ := hcut
        have hwh' := hwh.out
        have q1 : (f : Int) ≤ (E : Int) := by omega
        have q2 : (E : Int) ≤ (s.size : Int) := by omega
        obtain ⟨pt, hpp⟩ : ∃ p : ByteArray, p = if E < s.size then part else ⟨#[]⟩ := ⟨_, rfl⟩
        have hpp1 : Hid (by_ pt = rpPart T) := Lib.hid (by
          rw [hpp]
          split
          · exact hp1.out
          · unfold rpPart
            rw [ha.out, List.drop_of_length_le (by have := hTE.out; omega)])
        replace hpp := Lib.hid hpp
        go_upto_if 45 with fail
        clear hwh'
        go_cut [10] (fun v wn => v = .string pt ∧ Hid (pt.size ≤ k ∧ (decide (a < T.length) && (!decide ((T.getD a 0).toNat = 46) || (rpPart T).isEmpty || decide (k < (rpPart T).length))) = false) ∧ w = wn)
        case first =>
          by_cases hlt : E < s.size
          · have e : Hid (pt = part) := Lib.hid (by rw [hpp.out, if_pos hlt])
            have hal2 : a < T.length := by have := hTE.out; omega
            obtain ⟨c, hc⟩ : ∃ c, s[E] = c := ⟨_, rfl⟩
            have hTa : Hid (T.getD a 0 = c) := Lib.hid (by
              rw [htr.out, ← getD_at s E hlt c hc, hTE.out.1]
              simp [List.getD])
            have hpt' := hpt.out
            have q3 : (E : Int) + 1 ≤ (s.size : Int) := by omega
            cases h : ((c.toNat : Int) == 46)
            · have hn := beq_no (n := 46) h
              have hB : Hid (R = (0, 7)) := Lib.hid (by rw [HRR.out, show rpBad T k = true from by unfold rpBad; rw [ha.out, hTa.out, decide_eq_true hal2, decide_eq_false hn]; simp]; rfl)

              have h2 : ¬ (c.toNat : Int) = 46 := by omega
              have h3 : ((c.toNat : Int) != 46) = true := by simp [h2]
              clear hn
              go_wp2_with fail
              go_ret2
              exact ⟨by rw [hB.out]; rfl, Below.refl _ _⟩

            · have h2 : (c.toNat : Int) = 46 := by simpa using h
              have hn := Lib.hid (beq_yes (n := 46) h)
              by_cases h4 : part.size = 0
              · have h5 : ((part.size : Int) == 0) = true := by rw [h4]; rfl
                have hB : Hid (R = (0, 7)) := Lib.hid (by rw [HRR.out, show rpBad T k = true from by unfold rpBad; rw [ha.out, hTa.out, decide_eq_true hal2, hn.out, show (rpPart T).isEmpty = true from by rw [← hp1.out, List.isEmpty_iff]; exact List.length_eq_zero_iff.1 h4]; simp]; rfl)

                replace h4 := Lib.hid h4
                go_wp2_with fail
                go_ret2
                exact ⟨by rw [hB.out]; rfl, Below.refl _ _⟩

              · have h5 : ((part.size : Int) == 0) = false := by rw [beq_eq_false_iff_ne]; omega
                by_cases h6 : k < part.size
                · have h7 : decide ((k : Int) < (part.size : Int)) = true := by simp; omega
                  have hB : Hid (R = (0, 7)) := Lib.hid (by rw [HRR.out, show rpBad T k = true from by unfold rpBad; rw [ha.out, hTa.out, decide_eq_true hal2, hn.out, show decide (k < (rpPart T).length) = true from decide_eq_true (by rw [← hp1.out]; exact h6)]; simp]; rfl)

                  go_wp2_with fail
                  go_ret2
                  exact ⟨by rw [hB.out]; rfl, Below.refl _ _⟩

                · have h7 : decide ((k : Int) < (part.size : Int)) = false := by simp; omega
                  go_wp2_with fail
                  go_meet
                  exact ⟨by rw [e.out], Lib.hid ⟨by rw [e.out]; omega, by
                    rw [hTa.out, hn.out, show decide (k < (rpPart T).length) = false from decide_eq_false (by rw [← hp1.out]; exact h6), show (rpPart T).isEmpty = false from by
                      cases hh : (rpPart T).isEmpty
                      · rfl
                      · exfalso
                        rw [← hp1.out, List.isEmpty_iff] at hh
                        exact h4 (by rw [size_by, hh]; rfl)]
                    simp⟩, rfl⟩
          · have e : Hid (pt = ⟨#[]⟩) := Lib.hid (by rw [hpp.out, if_neg hlt])
            go_wp2_with fail
            go_meet
            exact ⟨by rw [e.out], Lib.hid ⟨by rw [e.out]; exact Nat.zero_le _, by rw [decide_eq_false (show ¬ a < T.length by have := hTE.out; omega)]; rfl⟩, rfl⟩
        case rest =>
          obtain ⟨rfl, hptk, rfl⟩ := hcut
          have hTE2 : Hid (wh.size = a) := Lib.hid hTE.out.2.2.1
          clear hpt hp1 hpp hTE part
          have hpk := hptk.out.1
          have hFD := Lib.hid hptk.out.2
          have hps : by_ pt = rpPart T := hpp1.out
          replace hps := Lib.hid hps
          go_upto_block 2 with fail
          go_cut [] (fun wn => Hid ((by_ pt).all isDig = true) ∧ w = wn)
          case first =>
            go_wp2_with fail
            go_loopg [11] pt.size (fun g i wr => ∃ j : Nat, j ≤ pt.size ∧ i = .int .i64 (j : Int) ∧ Hid (g = pt.size - j ∧ ((by_ pt).take j).all isDig = true) ∧ w = wr)
            case atStart => exact ⟨0, Nat.zero_le _, rfl, Lib.hid ⟨rfl, rfl⟩, rfl⟩
            case round =>
              obtain ⟨j, hj, rfl, hr, rfl⟩ := hrel
              by_cases hlt : j < pt.size
              · obtain ⟨c, hc⟩ : ∃ c, pt[j] = c := ⟨_, rfl⟩
                have hc' : Hid ((by_ pt)[j]'hlt = c) := Lib.hid hc
                have HD : Hid (∀ w, Calls Tryd.prog 39 #[.int .u8 (c.toNat : Int)] w fun e w' => e = .returned (.bool (isDig c)) ∧ w = w') := Lib.hid fun w => refDigit_any c w
                cases hD : isDig c
                · rw [hD] at HD
                  have hB : Hid (R = (0, 7)) := Lib.hid (by rw [HRR.out, show rpBad T k = true from by unfold rpBad; rw [show (rpPart T).all isDig = false from by rw [← hps.out]; exact not_all hlt hc'.out hD]; simp]; rfl)

                  clear hD
                  go_wp2_with fail
                  refine (HD.out _).mono ?_
                  rintro e w' ⟨rfl, rfl⟩
                  go_wp2_with fail
                  go_ret2
                  exact ⟨by rw [hB.out]; rfl, Below.refl _ _⟩

                · rw [hD] at HD
                  replace hD := Lib.hid hD
                  go_wp2_with fail
                  refine (HD.out _).mono ?_
                  rintro e w' ⟨rfl, rfl⟩
                  go_wp2_with fail
                  go_roundg (pt.size - (j + 1))
                  case measure => have := hr.out.1; omega
                  case rel =>
                    refine ⟨j + 1, by omega, by go_num, Lib.hid ⟨rfl, ?_⟩, rfl⟩
                    rw [List.take_succ_eq_append_getElem (show j < (by_ pt).length from hlt), List.all_append, hr.out.2, hc'.out]
                    simp [hD.out]
              · go_wp2_with fail
                go_meet
                exact ⟨Lib.hid (by have := hr.out.2; rwa [List.take_of_length_le (by rw [by_len]; omega)] at this), rfl⟩
          case rest =>
            obtain ⟨hdig, rfl⟩ := hcut
            obtain ⟨b2, hb2⟩ : ∃ b, b = ((T.take a).isEmpty || (decide (1 < a) && decide ((T.headD 0).toNat = 48))) := ⟨_, rfl⟩
            replace hb2 := Lib.hid hb2
            go_upto_region 19 with fail
            go_cut [88] (fun v wn => v = .bool b2 ∧ w = wn)
            case first =>
              by_cases h0 : wh.size = 0
              · have h1 : ((wh.size : Int) == 0) = true := by rw [h0]; rfl
                have e : Hid (b2 = true) := Lib.hid (by rw [hb2.out, show (T.take a).isEmpty = true from by rw [← hw1.out, List.isEmpty_iff]; exact List.length_eq_zero_iff.1 h0]; rfl)
                replace h0 := Lib.hid h0
                go_wp2_with fail
                go_meet
                exact ⟨by rw [e.out], rfl⟩

              · have h1 : ((wh.size : Int) == 0) = false := by rw [beq_eq_false_iff_ne]; omega
                have hem : (T.take a).isEmpty = false := by
                  cases hh : (T.take a).isEmpty
                  · rfl
                  · exfalso
                    rw [← hw1.out, List.isEmpty_iff] at hh
                    exact h0 (by rw [size_by, hh]; rfl)
                by_cases h2 : 1 < wh.size
                · obtain ⟨c, hc⟩ : ∃ c, wh[0] = c := ⟨_, rfl⟩
                  have hhd := (drop_head wh 0 (by omega) c hc).1
                  rw [List.drop_zero, hw1.out, head_take (by have := hTE2.out; omega)] at hhd
                  cases h : ((c.toNat : Int) == 48)
                  · have e : Hid (b2 = false) := Lib.hid (by rw [hb2.out, hem, hhd]; have := beq_no (n := 48) h; simp [this])
                    clear hhd hem
                    go_wp2_with fail
                    go_meet
                    exact ⟨by rw [e.out], rfl⟩

                  · have e : Hid (b2 = true) := Lib.hid (by rw [hb2.out, hem, hhd, beq_yes (n := 48) h, decide_eq_true (show 1 < a by have := hTE2.out; omega)]; rfl)
                    clear hhd hem
                    go_wp2_with fail
                    go_meet
                    exact ⟨by rw [e.out], rfl⟩

                · have e : Hid (b2 = false) := Lib.hid (by rw [hb2.out, hem, decide_eq_false (show ¬ 1 < a by have := hTE2.out; omega)]; rfl)
                  clear hem
                  go_wp2_with fail
                  go_meet
                  exact ⟨by rw [e.out], rfl⟩

            case rest =>
              obtain ⟨rfl, rfl⟩ := hcut
              have hbad : Hid (b2 = true → R = (0, 7)) := Lib.hid (fun h => by
                rw [HRR.out, show rpBad T k = true from by
                  unfold rpBad
                  rw [ha.out, Bool.or_assoc, ← hb2.out, h]
                  simp]
                rfl)
              have hgood : Hid (b2 = false → R = parV neg (rpX T k)) := Lib.hid (fun h => by
                rw [HRR.out, show rpBad T k = false from by
                  unfold rpBad
                  rw [ha.out, Bool.or_assoc, ← hb2.out, h, hFD.out, ← hps.out, hdig.out]
                  rfl]
                rfl)
              clear HRR
              cases b2
              · have HG := Lib.hid (hgood.out rfl)
                clear hgood hbad hb2
                obtain ⟨P2, hP2⟩ : ∃ p : ByteArray, p = ⟨(by_ pt ++ List.replicate (k - pt.size) 48).toArray⟩ := ⟨_, rfl⟩
                have hP2b : Hid (by_ P2 = by_ pt ++ List.replicate (k - pt.size) 48) := Lib.hid (by rw [hP2, mk_by])
                replace hP2 := Lib.hid hP2
                go_upto_block 4 with fail
                go_cut [10] (fun v wn => v = .string P2 ∧ w = wn)
                case first =>
                  go_wp2_with fail
                  go_loopg [10] (k - pt.size) (fun g v wr => ∃ q : ByteArray, v = .string q ∧ q.size ≤ k ∧ Hid (g = k - q.size ∧ by_ q ++ List.replicate (k - q.size) 48 = by_ P2) ∧ w = wr)
                  case atStart => exact ⟨pt, rfl, hpk, Lib.hid ⟨rfl, hP2b.out.symm⟩, rfl⟩
                  case round =>
                    obtain ⟨q, rfl, hq, hr, rfl⟩ := hrel
                    by_cases hlt : q.size < k
                    · go_wp2_with fail
                      go_roundg (k - (q.size + 1))
                      case measure => have := hr.out.1; omega
                      case rel =>
                        have hz : (q ++ (⟨#[48]⟩ : ByteArray)).size = q.size + 1 := by rw [ByteArray.size_append]; rfl
                        refine ⟨q ++ ⟨#[48]⟩, rfl, by rw [hz]; omega, Lib.hid ⟨by rw [hz], ?_⟩, rfl⟩
                        rw [← hr.out.2, hz, by_append, by_dot, List.append_assoc]
                        congr 1
                        rw [show k - q.size = k - (q.size + 1) + 1 from by omega, List.replicate_succ]
                        rfl
                    · have e : Hid (q = P2) := Lib.hid (by_inj (by
                        have := hr.out.2
                        rwa [show k - q.size = 0 from by omega, List.replicate_zero, List.append_nil] at this))
                      go_wp2_with fail
                      go_meet
                      exact ⟨by rw [e.out], rfl⟩
                case rest =>
                  obtain ⟨rfl, rfl⟩ := hcut
                  obtain ⟨X, hX⟩ : ∃ X, wh ++ P2 = X := ⟨_, rfl⟩
                  have hXb : Hid (by_ X = rpX T k) := Lib.hid (by
                    rw [← hX, by_append, hw1.out, hP2b.out, hps.out]
                    unfold rpX
                    rw [ha.out, ← hps.out, List.append_assoc]
                    rfl)
                  have hP2s : P2.size ≤ 100 := by rw [size_by, hP2b.out, List.length_append, List.length_replicate, ← size_by]; omega
                  have hXs : X.size ≤ 2000000 := by rw [← hX, ByteArray.size_append]; omega
                  have hXd : Hid ((by_ X).all isDig = true) := Lib.hid (by
                    rw [← hX, by_append, hw1.out, hP2b.out, List.all_append, List.all_append, hdig.out, rep_dig, ← ha.out, runL_all]
                    rfl)
                  replace HG : Hid (R = parV neg (by_ X)) := Lib.hid (by rw [HG.out, hXb.out])
                  clear hXb
                  go_wp2_with fail
                  go_loopg [13, 14] X.size (fun g v i wr => ∃ m j : Nat, j ≤ X.size ∧ v = .int .i64 (m : Int) ∧ i = .int .i64 (j : Int) ∧ Hid (g = X.size - j ∧ accP ((by_ X).drop j) m = accP (by_ X) 0 ∧ m ≤ 1152921504606846976) ∧ w = wr)
                  case atStart => exact ⟨0, 0, Nat.zero_le _, rfl, rfl, Lib.hid ⟨rfl, rfl, by omega⟩, rfl⟩
                  case round =>
                    clear hX
                    obtain ⟨m, j, hj, rfl, rfl, hr, rfl⟩ := hrel
                    by_cases hlt : j < X.size
                    · obtain ⟨c, hc⟩ : ∃ c, X[j]'hlt = c := ⟨_, rfl⟩
                      have hc' : (by_ X)[j]'hlt = c := hc
                      have hdb := isDig_bd (by rw [← hc']; exact all_take isDig hXd.out j hlt : isDig c = true)
                      have hdrop : Hid ((by_ X).drop j = c :: (by_ X).drop (j + 1)) := Lib.hid (by rw [← hc']; exact List.drop_eq_getElem_cons hlt)
                      clear hc'
                      obtain ⟨d, hd⟩ : ∃ d, c.toNat - 48 = d := ⟨_, rfl⟩
                      have hm := hr.out.2.2
                      have e1 : IntKind.u8.wrap ((c.toNat : Int) - 48) = (d : Int) := by rw [IntKind.wrap_u8]; omega
                      obtain ⟨M, hM⟩ : ∃ M, 1152921504606846976 - d = M := ⟨_, rfl⟩
                      have e3 : IntKind.i64.wrap (1152921504606846976 - (d : Int)) = (M : Int) := by rw [wrap_in (by omega)]; omega
                      obtain ⟨Q, hQ⟩ : ∃ Q, M / 10 = Q := ⟨_, rfl⟩
                      have e4 : ((M : Int)).tdiv 10 = (Q : Int) := by rw [Int.tdiv_eq_ediv_of_nonneg (by omega)]; omega
                      have e4w : IntKind.i64.wrap (Q : Int) = (Q : Int) := wrap_in (by omega)
                      have hd9 : d ≤ 9 := by omega
                      have hacc : Hid (accP ((by_ X).drop j) m = if Q < m then none else accP ((by_ X).drop (j + 1)) (10 * m + d)) := Lib.hid (by rw [hdrop.out, accP_cons, hd, hM, hQ])
                      by_cases cQ : (Q : Int) < (m : Int)
                      · have hB : Hid (R = (0, 5)) := Lib.hid (by
                          rw [HG.out]
                          unfold parV
                          rw [← hr.out.2.1, hacc.out, if_pos (by omega)])
                        replace hM := Lib.hid hM
                        replace hQ := Lib.hid hQ
                        replace hd := Lib.hid hd
                        clear hm hdb
                        go_wp2_with fail
                        go_ret2
                        exact ⟨by rw [hB.out]; rfl, Below.refl _ _⟩

                      · obtain ⟨Y, hY⟩ : ∃ Y, 10 * m = Y := ⟨_, rfl⟩
                        obtain ⟨Z, hZ⟩ : ∃ Z, Y + d = Z := ⟨_, rfl⟩
                        have hZb : Z ≤ 1152921504606846976 := by omega
                        have e5 : IntKind.i64.wrap (10 * (m : Int)) = (Y : Int) := by rw [wrap_in (by omega)]; omega
                        have e6 : IntKind.i64.wrap ((Y : Int) + (d : Int)) = (Z : Int) := by rw [wrap_in (by omega)]; omega
                        have hN : Hid (accP ((by_ X).drop (j + 1)) Z = accP (by_ X) 0 ∧ Z ≤ 1152921504606846976) := Lib.hid ⟨by
                          rw [← hr.out.2.1, hacc.out, if_neg (by omega), hY, hZ], hZb⟩
                        replace hM := Lib.hid hM
                        replace hQ := Lib.hid hQ
                        replace hd := Lib.hid hd
                        replace hY := Lib.hid hY
                        replace hZ := Lib.hid hZ
                        clear hm hdb hZb
                        go_wp2_with fail
                        go_roundg (X.size - (j + 1))
                        case measure => have := hr.out.1; omega
                        case rel => exact ⟨Z, j + 1, by omega, by go_num, by go_num, Lib.hid ⟨rfl, hN.out.1, hN.out.2⟩, rfl⟩
                    · have hB : Hid (R = (if neg then -(m : Int) else (m : Int), 0)) := Lib.hid (by
                        rw [HG.out]
                        unfold parV
                        rw [← hr.out.2.1, List.drop_of_length_le (by rw [by_len]; omega)]
                        rfl)
                      have e7 : IntKind.i64.wrap (-(m : Int)) = -(m : Int) := wrap_in (by have := hr.out.2.2; omega)
                      have e8 : IntKind.i64.wrap (0 - (m : Int)) = -(m : Int) := by rw [show 0 - (m : Int) = -(m : Int) from by omega]; exact e7
                      cases neg
                      · go_wp2_with fail
                        go_ret2
                        exact ⟨by rw [hB.out]; rfl, Below.refl _ _⟩

                      · go_wp2_with fail
                        go_ret2
                        exact ⟨by rw [hB.out]; rfl, Below.refl _ _⟩

              · have hB := Lib.hid (hbad.out rfl)
                go_wp2_with fail
                go_ret2
                exact ⟨by rw [hB.out]; rfl, Below.refl _ _⟩

end Go.Proofs.YtdbgfeeglnpobaaDoor
