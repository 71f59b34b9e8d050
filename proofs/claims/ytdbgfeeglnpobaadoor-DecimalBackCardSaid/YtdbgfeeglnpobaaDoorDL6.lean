/- DecimalBack's walk: it returns true. -/
import Derived.Test.YtdbgfeeglnpobaaDoorMBack2
import Derived.Test.YtdbgfeeglnpobaaDoorDL2
import Derived.Deep.LoopGhost
import Derived.Deep.DeepCutAuto
import Derived.Deep.CutBlock
set_option linter.unusedVariables false
namespace Go.Proofs.YtdbgfeeglnpobaaDoor
open Go.ChangeShapes Go.WideShapes Go.ChangeAt Go.RowKit

set_option maxRecDepth 100000 in
theorem back_long (n d m : Int) (s : ByteArray) (hs : (100 : Int) < (s.size : Int)) (w : World) (HW : Hid (∀ u, Below w.heap.size w u → Calls Tryd.prog 11 #[] u fun e w' => e = .returned (.bool true) ∧ Below u.heap.size u w')) :
    Calls Tryd.prog 7 #[.int .i64 n, .int .u8 d, .int .u8 m, .string s] w fun e w' => e = .returned (.bool true) ∧ Below w.heap.size w w' := by
  go_enter Tryd.func7, Tryd.ntmps7
  go_wp2_with fail
  refine (HW.out _ (Below.refl _ _)).mono ?_
  rintro e w1 ⟨rfl, HB⟩
  go_wp2_with fail
  go_ret
  exact ⟨rfl, HB⟩

set_option maxRecDepth 100000 in
set_option maxHeartbeats 2000000 in
theorem back_core (n d m er v fe idx : Int) (k q r j : Nat) (x s : ByteArray) (fb : Bool) (hs : ¬ (100 : Int) < (s.size : Int)) (w : World) (k9 : k ≤ 9) (q1 : 1 ≤ q) (rq : r < q) (qk : q + k = 10)
    (e1 : IntKind.i64.wrap d = d) (e2 : d.tmod 10 = (k : Int)) (e3 : IntKind.i64.wrap m = m) (e4 : (10 : Int) - (k : Int) = (q : Int)) (e5 : m.tmod (q : Int) = (r : Int)) (e6 : (k : Int) + (r : Int) = (j : Int)) (e7 : (j : Int) - (k : Int) = (r : Int))
    (HW : Hid (∀ u, Below w.heap.size w u → Calls Tryd.prog 11 #[] u fun e w' => e = .returned (.bool true) ∧ Below u.heap.size u w')) (HF1 : Hid (∀ u, Below w.heap.size w u → Calls Tryd.prog 12 #[.int .i64 n, .int .i64 (k : Int)] u fun e w' => e = .returned (.tuple #[.string x, .int .i64 er]) ∧ Below u.heap.size u w'))
    (HA : Hid ((er == 0) = false ∨ er = 0 ∧ (∀ w, Calls Tryd.prog 15 #[.string x, .int .i64 (k : Int)] w fun e w' => e = .returned (pav (n, 0)) ∧ Below w.heap.size w w') ∧
      ((∃ z : Int, (∀ w, Calls Tryd.prog 15 #[.string x, .int .i64 (j : Int)] w fun e w' => e = .returned (pav (z, 0)) ∧ Below w.heap.size w w') ∧ z = n * ((10 ^ r : Nat) : Int) ∧ -1152921504606846976 ≤ z ∧ z ≤ 1152921504606846976) ∨ (∀ w, Calls Tryd.prog 15 #[.string x, .int .i64 (j : Int)] w fun e w' => e = .returned (pav (0, 5)) ∧ Below w.heap.size w w'))))
    (HP : Hid (∀ w, Calls Tryd.prog 15 #[.string s, .int .i64 (k : Int)] w fun e w' => e = .returned (pav (v, fe)) ∧ Below w.heap.size w w')) (HI : Hid (∀ w, Calls Tryd.prog 21 #[.string s, .int .u8 46] w fun e w' => e = .returned (.int .i64 idx) ∧ w = w'))
    (hfb : Hid (fb = (decide (k = 0) || (decide (0 ≤ idx) && decide ((s.size : Int) - idx - 1 = k))))) (hib : -1 ≤ idx ∧ idx ≤ 100)
    (HB3 : Hid ((fe == 0) = false ∧ v = 0 ∨ fe = 0 ∧ ∃ t : ByteArray, (∀ u, Below w.heap.size w u → Calls Tryd.prog 12 #[.int .i64 v, .int .i64 (k : Int)] u fun e w' => e = .returned (fmv t) ∧ Below u.heap.size u w') ∧ t.size ≤ 100 ∧ (fb = true → t = s ∨ v = 0 ∧ (⟨#[45]⟩ : ByteArray) ++ t = s))) :
    Calls Tryd.prog 7 #[.int .i64 n, .int .u8 d, .int .u8 m, .string s] w fun e w' => e = .returned (.bool true) ∧ Below w.heap.size w w' := by
  have zq : ((q : Int) == 0) = false := by rw [beq_eq_false_iff_ne]; omega
  have zq2 : ¬ (q : Int) = 0 := by omega
  go_enter Tryd.func7, Tryd.ntmps7
  go_wp2_with fail
  refine (HW.out _ (Below.refl _ _)).mono ?_
  rintro e w1 ⟨rfl, HB⟩
  go_wp2_with fail
  refine (HF1.out _ HB).mono ?_
  rintro e w2 ⟨rfl, hb⟩
  replace HB := below_then HB hb
  clear hb
  go_upto_if 38 with fail
  go_cut [] (fun wn => Below w.heap.size w wn)
  case first =>
    rcases HA.out with z0 | ⟨z0, c1, ⟨z, c2, hz, hzb⟩ | c2⟩
    · have z0a : ¬ er = 0 := by simpa using z0
      go_wp2_with fail
      go_meet
      exact HB

    · have C1 := Lib.hid c1
      have C2 := Lib.hid c2
      clear c1 c2
      subst z0
      replace hz := Lib.hid hz
      go_wp2_with fail
      refine (C1.out _).mono ?_
      rintro e w3 ⟨rfl, hb⟩
      replace HB := below_then HB hb
      clear hb
      go_wp2_with fail
      refine (C2.out _).mono ?_
      rintro e w4 ⟨rfl, hb⟩
      replace HB := below_then HB hb
      clear hb
      go_wp2_with fail
      go_loopg [15, 70] r (fun g v i wr => ∃ (y : Int) (c : Nat), v = .int .i64 y ∧ i = .int .i64 (c : Int) ∧ c ≤ r ∧ (-1152921504606846976 ≤ y ∧ y ≤ 1152921504606846976) ∧ Hid (g = r - c ∧ y = n * ((10 ^ (r - c) : Nat) : Int)) ∧ Below w.heap.size w wr)
      case atStart => exact ⟨z, 0, rfl, rfl, Nat.zero_le _, hzb, Lib.hid ⟨rfl, hz.out⟩, HB⟩
      case round =>
        clear HB
        obtain ⟨y, c, rfl, rfl, hc, hy, hr, HB⟩ := hrel
        by_cases hlt : c < r
        · obtain ⟨y', hy'⟩ : ∃ y' : Int, n * ((10 ^ (r - (c + 1)) : Nat) : Int) = y' := ⟨_, rfl⟩
          have hyy : y = y' * 10 := by
            rw [hr.out.2, ← hy', show r - c = r - (c + 1) + 1 from by omega, Nat.pow_succ, Int.natCast_mul, Int.mul_assoc]
            rfl
          have t1 : y.tmod 10 = 0 := by rw [hyy]; exact Int.mul_tmod_left _ _
          have t2 : y.tdiv 10 = y' := by rw [hyy]; exact Int.mul_tdiv_cancel _ (by decide)
          have yb : -1152921504606846976 ≤ y' ∧ y' ≤ 1152921504606846976 := by omega
          have e8 : IntKind.i64.wrap y' = y' := wrap_in (by omega)
          replace hy' := Lib.hid hy'
          clear hyy
          go_wp2_with fail
          go_roundg (r - (c + 1))
          case measure => have := hr.out.1; omega
          case rel => exact ⟨y', c + 1, rfl, by go_num, by omega, yb, Lib.hid ⟨rfl, hy'.out.symm⟩, HB⟩
        · have e : y = n := by
            have := hr.out.2
            rw [show r - c = 0 from by omega] at this
            simpa using this
          subst e
          go_wp2_with fail
          go_meet
          exact HB
    · have C1 := Lib.hid c1
      have C2 := Lib.hid c2
      clear c1 c2
      subst z0
      go_wp2_with fail
      refine (C1.out _).mono ?_
      rintro e w3 ⟨rfl, hb⟩
      replace HB := below_then HB hb
      clear hb
      go_wp2_with fail
      refine (C2.out _).mono ?_
      rintro e w4 ⟨rfl, hb⟩
      replace HB := below_then HB hb
      clear hb
      go_wp2_with fail
      go_meet
      exact HB

  case rest =>
    clear HB HA HF1
    have HB := hcut
    clear hcut
    go_wp2_with fail
    refine (HP.out _).mono ?_
    rintro e w5 ⟨rfl, hb⟩
    replace HB := below_then HB hb
    clear hb
    rcases HB3.out with ⟨z0, hv⟩ | ⟨z0, t, hF, ht, hfin⟩
    · have z0a : ¬ fe = 0 := by simpa using z0
      have z0b : (fe != 0) = true := by simp [z0a]
      subst hv
      go_wp2_with fail
      go_ret
      exact ⟨rfl, HB⟩

    · subst z0
      have HF := Lib.hid hF
      replace hfin := Lib.hid hfin
      clear hF
      go_wp2_with fail
      refine (HF.out _ HB).mono ?_
      rintro e w6 ⟨rfl, hb⟩
      replace HB := below_then HB hb
      clear hb
      go_wp2_with fail
      refine (HI.out _).mono ?_
      rintro e w7 ⟨rfl, hw7⟩
      subst hw7
      go_upto_region 29 with fail
      go_cut [22] (fun u wn => u = .bool fb ∧ Below w.heap.size w wn)
      case first =>
        by_cases hk : k = 0
        · have e : Hid (fb = true) := Lib.hid (by rw [hfb.out, decide_eq_true hk]; rfl)
          have b0 : ((k : Int) == 0) = true := by rw [hk]; rfl
          replace hk := Lib.hid hk
          go_wp2_with fail
          go_meet
          exact ⟨by rw [e.out], HB⟩
        · have b0 : ((k : Int) == 0) = false := by rw [beq_eq_false_iff_ne]; omega
          by_cases hi : 0 ≤ idx
          · by_cases hq : (s.size : Int) - idx - 1 = (k : Int)
            · have e : Hid (fb = true) := Lib.hid (by rw [hfb.out, decide_eq_true hi, decide_eq_true hq]; simp)
              have b1 : ((s.size : Int) - idx - 1 == (k : Int)) = true := by simpa using hq
              go_wp2_with fail
              go_meet
              exact ⟨by rw [e.out], HB⟩
            · have e : Hid (fb = false) := Lib.hid (by rw [hfb.out, decide_eq_false hk, decide_eq_false hq]; simp)
              have b1 : ((s.size : Int) - idx - 1 == (k : Int)) = false := by simpa using hq
              go_wp2_with fail
              go_meet
              exact ⟨by rw [e.out], HB⟩
          · have e : Hid (fb = false) := Lib.hid (by rw [hfb.out, decide_eq_false hk, decide_eq_false hi]; rfl)
            go_wp2_with fail
            go_meet
            exact ⟨by rw [e.out], HB⟩
      case rest =>
        clear HB
        obtain ⟨rfl, HB⟩ := hcut
        cases fb
        · go_wp2_with fail
          go_ret
          exact ⟨rfl, HB⟩

        · rcases hfin.out rfl with rfl | ⟨hv, hst⟩
          · go_wp2_with fail
            go_ret
            exact ⟨rfl, HB⟩

          · subst hv
            have hne : ¬ t.size = s.size := by rw [← hst, ByteArray.size_append]; show ¬ t.size = 1 + t.size; omega
            have hne2 : (t.toList == s.toList) = false := by
              cases hh : t.toList == s.toList
              · rfl
              · exfalso
                have : t.toList = s.toList := by simpa using hh
                rw [Lib.toList_data, Lib.toList_data] at this
                exact hne (by rw [Lib.size_eq, Lib.size_eq, this])
            go_wp2_with fail
            go_ret
            exact ⟨rfl, HB⟩

theorem fmt_len (n : Int) (k : Nat) (k9 : k ≤ 9) (hn : numB n = true) : (fmtL n k).length ≤ 60 := by
  have hb := numB_iff.1 hn
  have h1 : (bodL n.natAbs k).length ≤ 50 := by
    have pl := pad_len n.natAbs (k + 1)
    have dl := dec_len n.natAbs (by omega)
    unfold bodL
    split
    · omega
    · simp only [List.length_append, List.length_cons, List.length_take, List.length_drop]
      omega
  rw [fmt_bod, List.length_append]
  split <;> simp <;> omega
theorem decimalBack_walk (n d m : Int) (s : ByteArray) (_ : (Lit.int .i64 n).wf = true) (hd : (Lit.int .u8 d).wf = true) (hm : (Lit.int .u8 m).wf = true) (w : World) (ht : Tab w) :
    Calls Tryd.prog 7 #[.int .i64 n, .int .u8 d, .int .u8 m, .string s] w fun e w' => e = .returned (.bool true) ∧ Below w.heap.size w w' := by
  have HW := Lib.hid (fun u (hb : Below w.heap.size w u) => awake_any u (ht.bel hb))
  by_cases hs : (100 : Int) < (s.size : Int)
  · exact back_long n d m s hs w HW
  have lim : ∀ n : Int, (Lit.int .u8 n).wf = true → 0 ≤ n ∧ n ≤ 255 := fun n h => by
    have e1 : IntKind.u8.min = 0 := by decide
    have e2 : IntKind.u8.max = 255 := by decide
    simp only [Lit.wf, Bool.and_eq_true, decide_eq_true_eq, e1, e2] at h
    exact h
  have b1 := lim d hd
  have b2 := lim m hm
  obtain ⟨k, hk⟩ : ∃ k : Nat, d.tmod 10 = (k : Int) := ⟨(d.tmod 10).toNat, by rw [Int.tmod_eq_emod_of_nonneg b1.1]; omega⟩
  have k9 : k ≤ 9 := by rw [Int.tmod_eq_emod_of_nonneg b1.1] at hk; omega
  obtain ⟨q, hq⟩ : ∃ q : Nat, 10 - k = q := ⟨_, rfl⟩
  obtain ⟨r, hr⟩ : ∃ r : Nat, m.tmod (q : Int) = (r : Int) := ⟨(m.tmod (q : Int)).toNat, by
    rw [Int.tmod_eq_emod_of_nonneg b2.1]
    have := Int.emod_nonneg m (show (q : Int) ≠ 0 by omega)
    omega⟩
  have rq : r < q := by
    rw [Int.tmod_eq_emod_of_nonneg b2.1] at hr
    have := Int.emod_lt_of_pos m (show (0 : Int) < q by omega)
    omega
  have f0 : 1 ≤ q := by omega
  have f1 : q + k = 10 := by omega
  have f2 : (10 : Int) - (k : Int) = (q : Int) := by omega
  have f3 : (k : Int) + (r : Int) = ((k + r : Nat) : Int) := by omega
  have f4 : ((k + r : Nat) : Int) - (k : Int) = (r : Int) := by omega
  have f5 : k + r ≤ 9 := by omega
  have f6 : IntKind.i64.wrap d = d := wrap_in (by omega)
  have f7 : IntKind.i64.wrap m = m := wrap_in (by omega)
  have hi1 := idx_bd (by_ s) 46
  have hi2 := Lib.indexByte_ge (by_ s) 46
  have hl : (by_ s).length = s.size := rfl
  rw [hl] at hi1
  have f8 : Lib.indexByte (by_ s) 46 ≤ 100 := by omega
  have HI : Hid (∀ w, Calls Tryd.prog 21 #[.string s, .int .u8 46] w fun e w' => e = .returned (.int .i64 (Lib.indexByte (by_ s) 46)) ∧ w = w') := Lib.hid fun w => (Tryd.strings_IndexByte s 46 w).mono fun _ _ ⟨a, b⟩ => ⟨a, b.symm⟩
  rcases hp : parS (by_ s) k with ⟨v, fe⟩
  have HP := fun w => parse_any s (by omega) k k9 w
  rw [hp] at HP
  have HB3 : (fe == 0) = false ∧ v = 0 ∨ fe = 0 ∧ ∃ t : ByteArray, (∀ u, Below w.heap.size w u → Calls Tryd.prog 12 #[.int .i64 v, .int .i64 (k : Int)] u fun e w' => e = .returned (fmv t) ∧ Below u.heap.size u w') ∧ t.size ≤ 100 ∧ (fullB (by_ s) k = true → t = s ∨ v = 0 ∧ (⟨#[45]⟩ : ByteArray) ++ t = s) := by
    by_cases hf : fe = 0
    · subst hf
      have pb := par_back hp
      have nb := numB_iff.2 pb.1
      refine .inr ⟨rfl, ⟨(fmtL v k).toArray⟩, fun u hb => fmt_ok v k k9 nb u (ht.bel hb), by rw [mk_size]; have := fmt_len v k k9 nb; omega, fun hfu => ?_⟩
      rcases pb.2 hfu with h | ⟨h0, h⟩
      · left
        rw [h]
      · right
        refine ⟨h0, by_inj ?_⟩
        rw [by_append, ← h]
        show [45] ++ by_ (⟨(fmtL v k).toArray⟩ : ByteArray) = _
        rw [mk_by]
        rfl
    · exact .inl ⟨by simpa using hf, parS_err hp hf⟩
  have fin := fun (er : Int) (x : ByteArray) HF1 HA => back_core n d m er v fe (Lib.indexByte (by_ s) 46) k q r (k + r) x s (fullB (by_ s) k) hs w k9 f0 rq f1 f6 hk f7 f2 hr f3 f4 HW HF1 HA (Lib.hid HP) HI (Lib.hid rfl) ⟨hi2, f8⟩ (Lib.hid HB3)
  cases hn : numB n
  · exact fin 5 ⟨#[]⟩ (Lib.hid fun u _ => fmt_big n (k : Int) (by simp; omega) hn u) (Lib.hid (.inl rfl))
  · have nb := numB_iff.1 hn
    have fl := fmt_len n k k9 hn
    refine fin 0 ⟨(fmtL n k).toArray⟩ (Lib.hid fun u hb => fmt_ok n k k9 hn u (ht.bel hb)) (Lib.hid (.inr ⟨rfl, fun w => ?_, ?_⟩))
    · have := parse_any ⟨(fmtL n k).toArray⟩ (by rw [mk_size]; omega) k k9 w
      rw [mk_by, par_fmt n k k (Nat.le_refl _), Nat.sub_self, if_pos (by omega), show n * ((10 ^ 0 : Nat) : Int) = n from by simp] at this
      exact this
    · have PJ := fun w => parse_any ⟨(fmtL n k).toArray⟩ (by rw [mk_size]; omega) (k + r) f5 w
      rw [mk_by, par_fmt n k (k + r) (Nat.le_add_right _ _), Nat.add_sub_cancel_left] at PJ
      by_cases hB : n.natAbs * 10 ^ r ≤ 1152921504606846976
      · rw [if_pos hB] at PJ
        left
        refine ⟨n * ((10 ^ r : Nat) : Int), PJ, rfl, ?_⟩
        have e : (n * ((10 ^ r : Nat) : Int)).natAbs = n.natAbs * 10 ^ r := by rw [Int.natAbs_mul, Int.natAbs_natCast]
        omega
      · rw [if_neg hB] at PJ
        exact .inr PJ

end Go.Proofs.YtdbgfeeglnpobaaDoor
