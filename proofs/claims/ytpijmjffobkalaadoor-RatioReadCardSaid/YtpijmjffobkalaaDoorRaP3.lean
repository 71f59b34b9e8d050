/- The reference's number and Parse. -/
import Derived.Test.YtpijmjffobkalaaDoorRaP2
import Derived.Deep.LoopGhost
import Derived.Deep.DeepCutAuto
import Derived.Deep.CutBlock
set_option linter.unusedVariables false
namespace Go.Proofs.YtpijmjffobkalaaDoor
open Go.ChangeShapes Go.WideShapes Go.ChangeAt Go.RowKit

theorem and63 (a : Nat) (h : a < 18446744073709551616) : bits .and .u64 (a : Int) 9223372036854775807 = ((a % 9223372036854775808 : Nat) : Int) := by
  have e : (BitVec.ofInt 64 (a : Int) &&& BitVec.ofInt 64 9223372036854775807).toNat = a % 9223372036854775808 := by
    rw [BitVec.toNat_and, BitVec.toNat_ofInt, BitVec.toNat_ofInt]
    rw [show (((9223372036854775807 : Int) % ((2 ^ 64 : Nat) : Int)).toNat) = 2 ^ 63 - 1 from by decide, show ((a : Int) % ((2 ^ 64 : Nat) : Int)).toNat = a from by omega]
    exact Nat.and_two_pow_sub_one_eq_mod a 63
  show IntKind.u64.wrap ((BitVec.ofInt 64 (a : Int) &&& BitVec.ofInt 64 9223372036854775807).toNat : Int) = _
  rw [e, IntKind.wrap_u64]
  omega
theorem digB_not {c : UInt8} (h : digB c = false) : (c.toNat < 48) ∨ (57 < c.toNat) := by
  unfold digB at h
  simp only [Bool.and_eq_false_iff, decide_eq_false_iff_not] at h
  omega
set_option maxRecDepth 100000 in
set_option maxHeartbeats 1000000 in
theorem refnumber_any (s : ByteArray) (hs : s.size ≤ 1000000) (w : World) :
    Calls Tryd.prog 64 #[.string s] w fun e w' => e = .returned (.tuple #[.int .i64 (numR (by_ s)).1, .bool (numR (by_ s)).2]) ∧ w = w' := by
  obtain ⟨R, hR⟩ : ∃ R, numR (by_ s) = R := ⟨_, rfl⟩
  rw [hR]
  replace hR := Lib.hid hR
  have hl : (by_ s).length = s.size := rfl
  by_cases h0 : s.size < 1
  · have hE : Hid (R = (0, false)) := Lib.hid (by rw [← hR.out]; unfold numR; rw [if_pos (by omega)])
    clear hl
    go_enter Tryd.func64, Tryd.ntmps64
    go_wp2_with fail
    go_ret2
    exact ⟨by rw [hE.out]; rfl, rfl⟩
  by_cases h1 : 19 < s.size
  · have hE : Hid (R = (0, false)) := Lib.hid (by rw [← hR.out]; unfold numR; rw [if_pos (by omega)])
    clear hl
    go_enter Tryd.func64, Tryd.ntmps64
    go_wp2_with fail
    go_ret2
    exact ⟨by rw [hE.out]; rfl, rfl⟩
  have hE : Hid (R = if (by_ s).all digB then (((numV (by_ s) % 9223372036854775808 : Nat) : Int), decide (numV (by_ s) ≤ 1152921504606846976)) else (0, false)) := Lib.hid (by rw [← hR.out]; unfold numR; rw [if_neg (by omega)])
  clear hl hR
  go_enter Tryd.func64, Tryd.ntmps64
  go_wp2_with fail
  go_loopg [4, 5] s.size (fun g v i wr => ∃ (k a : Nat), k ≤ s.size ∧ v = .int .u64 (a : Int) ∧ i = .int .i64 (k : Int) ∧ Hid (g = s.size - k ∧ ((by_ s).take k).all digB = true ∧ a = numV ((by_ s).take k)) ∧ w = wr)
  case atStart => exact ⟨0, 0, Nat.zero_le _, rfl, rfl, Lib.hid ⟨rfl, rfl, rfl⟩, rfl⟩
  case round =>
    obtain ⟨k, a, hk, rfl, rfl, hr, rfl⟩ := hrel
    by_cases hlt : k < s.size
    · obtain ⟨c, hc⟩ : ∃ c, s[k] = c := ⟨_, rfl⟩
      have hc' : Hid ((by_ s)[k]'hlt = c) := Lib.hid hc
      cases hD : digB c
      · have hE' : Hid (R = (0, false)) := Lib.hid (by
          rw [hE.out]
          cases hall : (by_ s).all digB
          · simp
          · have := List.all_eq_true.1 hall _ (List.getElem_mem (show k < (by_ s).length from hlt))
            rw [hc'.out, hD] at this
            exact absurd this (by decide))
        rcases digB_not hD with h | h
        · have g1 : decide ((c.toNat : Int) < 48) = true := by simp; omega
          clear hD h
          go_wp2_with fail
          go_ret2
          exact ⟨by rw [hE'.out]; rfl, rfl⟩
        · have g1 : decide ((c.toNat : Int) < 48) = false := by simp; omega
          have g2 : decide (57 < (c.toNat : Int)) = true := by simp; omega
          clear hD h
          go_wp2_with fail
          go_ret2
          exact ⟨by rw [hE'.out]; rfl, rfl⟩
      · have hd := digB_bd hD
        obtain ⟨x, hx⟩ : ∃ x : Nat, c.toNat = x + 48 := ⟨c.toNat - 48, by omega⟩
        have hx9 : x ≤ 9 := by omega
        have ha : a < 1000000000000000000 := by
          have h2 := numV_lt k _ (by rw [List.length_take, by_len]; omega) hr.out.2.1
          rw [← hr.out.2.2] at h2
          have h3 : (10 : Nat) ^ k ≤ 10 ^ 18 := Nat.pow_le_pow_right (by decide) (by omega)
          omega
        obtain ⟨a', ha'⟩ : ∃ a' : Nat, 10 * a + x = a' := ⟨_, rfl⟩
        have g1 : decide ((c.toNat : Int) < 48) = false := by simp; omega
        have g2 : decide (57 < (c.toNat : Int)) = false := by simp; omega
        have g3 : IntKind.u8.wrap ((c.toNat : Int) - 48) = (x : Int) := by rw [IntKind.wrap_u8]; omega
        have g4 : IntKind.u64.wrap (x : Int) = (x : Int) := by rw [IntKind.wrap_u64]; omega
        obtain ⟨a10, ha10⟩ : ∃ a10 : Nat, 10 * a = a10 := ⟨_, rfl⟩
        have g5 : IntKind.u64.wrap (10 * (a : Int)) = (a10 : Int) := by rw [IntKind.wrap_u64]; omega
        have g6 : IntKind.u64.wrap ((a10 : Int) + (x : Int)) = (a' : Int) := by rw [IntKind.wrap_u64]; omega
        have hN : Hid (((by_ s).take (k + 1)).all digB = true ∧ a' = numV ((by_ s).take (k + 1))) := Lib.hid (by
          rw [List.take_succ_eq_append_getElem (show k < (by_ s).length from hlt), List.all_append, hr.out.2.1, hc'.out, numV_snoc, ← hr.out.2.2]
          refine ⟨by simp [hD], ?_⟩
          omega)
        clear hD hd hx hx9 ha ha' ha10
        go_wp2_with fail
        go_roundg (s.size - (k + 1))
        case measure => have := hr.out.1; omega
        case rel => exact ⟨k + 1, a', by omega, rfl, by go_num, Lib.hid ⟨rfl, hN.out⟩, rfl⟩
    · have hk' : k = s.size := by omega
      have e : (by_ s).take k = by_ s := List.take_of_length_le (by rw [hk', by_len]; exact Nat.le_refl _)
      have h2 := hr.out.2
      rw [e] at h2
      have ha : a < 10000000000000000000 := by
        have h3 := numV_lt s.size _ rfl h2.1
        rw [← h2.2] at h3
        have h4 : (10 : Nat) ^ s.size ≤ 10 ^ 19 := Nat.pow_le_pow_right (by decide) (by omega)
        omega
      have g1 := and63 a (by omega)
      obtain ⟨m, hm⟩ : ∃ m : Nat, a % 9223372036854775808 = m := ⟨_, rfl⟩
      rw [hm] at g1
      have g2 : IntKind.i64.wrap (m : Int) = (m : Int) := wrap_in (by omega)
      have hE' : Hid (R = ((m : Int), decide ((a : Int) ≤ 1152921504606846976))) := Lib.hid (by
        rw [hE.out, if_pos h2.1, ← h2.2, hm]
        congr 1
        rw [decide_eq_decide]
        omega)
      obtain ⟨q, hq⟩ : ∃ q, decide ((a : Int) ≤ 1152921504606846976) = q := ⟨_, rfl⟩
      rw [hq] at hE'
      clear hm h2 e ha
      go_wp2_with fail
      go_ret2
      exact ⟨by rw [hE'.out]; rfl, rfl⟩

def rvR (o : Option (Int × Int)) : Value := match o with | some (n, d) => .tuple #[.agg #[.int .i64 n, .int .i64 d], .bool true] | none => .tuple #[.agg #[.int .i64 0, .int .i64 0], .bool false]
/-- Where the first slash stands, or the end. -/
def slash (l : List UInt8) : Nat := if Lib.indexByte l 47 < 0 then l.length else (Lib.indexByte l 47).toNat
theorem slash_le (l : List UInt8) : slash l ≤ l.length := by
  have := idx_bd l 47
  unfold slash
  split <;> omega
theorem slash_cut (l : List UInt8) : cutB 47 l = (l.take (slash l), l.drop (slash l + 1), decide (slash l < l.length)) := by
  have h0 := idx_bd l 47
  unfold cutB slash
  split
  · rw [List.take_length, List.drop_of_length_le (by omega)]
    simp
  · rw [decide_eq_true (by omega)]
/-- The first slash in the first k bytes, or none. -/
def slA (l : List UInt8) (k : Nat) : Nat := if slash l < k then slash l else l.length
theorem idx_at : ∀ (l : List UInt8) (k : Nat) (hk : k < l.length), Lib.indexByte l 47 = (k : Int) → l[k] = 47
  | b :: l, k, hk, h => by
    unfold Lib.indexByte at h
    split at h
    · rename_i hb
      have : k = 0 := by omega
      subst this
      simpa using hb
    · split at h
      · omega
      · rename_i h2
        have h3 := Lib.indexByte_ge l 47
        have h4 : Lib.indexByte l 47 ≠ -1 := by simpa using h2
        obtain ⟨j, rfl⟩ : ∃ j, k = j + 1 := ⟨k - 1, by omega⟩
        exact idx_at l j (by simpa using hk) (by omega)
theorem idx_first : ∀ (l : List UInt8) (k : Nat) (hk : k < l.length), l[k] = 47 → 0 ≤ Lib.indexByte l 47 ∧ Lib.indexByte l 47 ≤ (k : Int)
  | b :: l, k, hk, h => by
    unfold Lib.indexByte
    split
    · omega
    · rename_i hb
      obtain ⟨j, rfl⟩ : ∃ j, k = j + 1 := by
        cases k with
        | zero => exact absurd (by simpa using h) hb
        | succ j => exact ⟨j, rfl⟩
      have := idx_first l j (by simpa using hk) (by simpa using h)
      rw [if_neg (by simp; omega)]
      omega
theorem slash_at {l : List UInt8} {k : Nat} (hk : k < l.length) (h : slash l = k) : l[k] = 47 := by
  unfold slash at h
  split at h
  · omega
  · exact idx_at l k hk (by omega)
theorem slash_first {l : List UInt8} {k : Nat} (hk : k < l.length) (h : l[k] = 47) : slash l ≤ k := by
  have := idx_first l k hk h
  unfold slash
  rw [if_neg (by omega)]
  omega
set_option maxRecDepth 100000 in
set_option maxHeartbeats 1000000 in
theorem refpparse_any (s : ByteArray) (hs : s.size ≤ 1000) (w : World) :
    Calls Tryd.prog 37 #[.string s] w fun e w' => e = .returned (rvR (refO (by_ s))) ∧ Below w.heap.size w w' := by
  obtain ⟨R, hR⟩ : ∃ R, refO (by_ s) = R := ⟨_, rfl⟩
  rw [hR]
  replace hR := Lib.hid hR
  obtain ⟨neg, hneg⟩ : ∃ neg, ngL (by_ s) = neg := ⟨_, rfl⟩
  obtain ⟨t, ht⟩ : ∃ t : ByteArray, (if neg then s.extract 1 s.size else s) = t := ⟨_, rfl⟩
  have hbt : Hid (bodR (by_ s) = by_ t) := Lib.hid (by
    unfold bodR
    rw [hneg, ← ht]
    cases neg
    · rfl
    · rw [if_pos rfl, if_pos rfl, by_drop, List.drop_one])
  replace hneg := Lib.hid hneg
  have bt : t.size ≤ s.size := by
    rw [← ht]
    cases neg
    · exact Nat.le_refl _
    · rw [if_pos rfl, ByteArray.size_extract]; omega
  go_enter Tryd.func37, Tryd.ntmps37
  go_upto_region 2 with fail
  generalize hWW : World.alloc _ _ = W0
  have kz : At W0 w.heap.size 23 #[.int .i64 0, .int .i64 0] := by rw [← hWW]; exact At.new' rfl
  have HB : Below w.heap.size w W0 := by rw [← hWW]; exact below_al (Below.refl _ _) _
  clear hWW
  go_cut [5] (fun v wn => v = .bool neg ∧ At wn w.heap.size 23 #[.int .i64 0, .int .i64 0] ∧ Below w.heap.size w wn)
  case first =>
    by_cases h0 : 0 < s.size
    · obtain ⟨c, hc⟩ : ∃ c, s[0] = c := ⟨_, rfl⟩
      have hn : Hid (neg = ((c.toNat : Int) == 45)) := Lib.hid (by
        rw [← hneg.out]
        have hc' : (by_ s)[0]'h0 = c := hc
        unfold ngL
        rw [List.head?_eq_getElem?, List.getElem?_eq_getElem (show 0 < (by_ s).length from h0), hc']
        by_cases h : c = 45
        · subst h; rfl
        · have : ¬ c.toNat = 45 := fun e => h (UInt8.toNat_inj.1 (by rw [e]; rfl))
          rw [show ((some c == some (45 : UInt8)) = false) by simpa using h]
          symm
          simp
          omega)
      cases h : ((c.toNat : Int) == 45)
      · rw [h] at hn
        go_wp2_with fail
        go_meet
        exact ⟨by rw [hn.out], kz, HB⟩
      · rw [h] at hn
        go_wp2_with fail
        go_meet
        exact ⟨by rw [hn.out], kz, HB⟩
    · have hn : Hid (neg = false) := Lib.hid (by
        rw [← hneg.out]
        have : by_ s = [] := List.length_eq_zero_iff.1 (by rw [by_len]; omega)
        rw [this]
        rfl)
      go_wp2_with fail
      go_meet
      exact ⟨by rw [hn.out], kz, HB⟩
  case rest =>
    clear kz HB
    obtain ⟨rfl, kz, HB⟩ := hcut
    go_upto_if 22 with fail
    go_cut [4] (fun v wn => v = .string t ∧ At wn w.heap.size 23 #[.int .i64 0, .int .i64 0] ∧ Below w.heap.size w wn)
    case first =>
      cases neg
      · have e : Hid (s = t) := Lib.hid (by rw [← ht]; rfl)
        clear ht
        go_wp2_with fail
        go_meet
        exact ⟨by rw [e.out], kz, HB⟩
      · have e : Hid (s.extract 1 s.size = t) := Lib.hid (by rw [← ht]; rfl)
        have h1 : (1 : Int) ≤ (s.size : Int) := by
          have := hneg.out
          cases h : by_ s with
          | nil => rw [h] at this; exact absurd this (by decide)
          | cons a b => have h2 : (by_ s).length = s.size := rfl; rw [h] at h2; simp at h2; omega
        clear ht
        go_wp2_with fail
        go_meet
        exact ⟨by rw [e.out], kz, HB⟩
    case rest =>
      clear kz HB
      obtain ⟨rfl, kz, HB⟩ := hcut
      clear ht
      obtain ⟨f, hf⟩ : ∃ f, slash (by_ t) = f := ⟨_, rfl⟩
      have hft : f ≤ t.size := by rw [← hf]; exact slash_le _
      have hN := (show refN (by_ t) = numR (by_ (t.extract 0 f)) by rw [by_take, ← hf]; unfold refN; rw [slash_cut])
      have hD := (show refD (by_ t) = if f < t.size then numR (by_ (t.extract (f + 1) t.size)) else (1, true) by
        rw [by_drop, ← hf]
        unfold refD
        rw [slash_cut]
        simp only [decide_eq_true_eq]
        rfl)
      replace hf := Lib.hid hf
      go_upto_block 0 with fail
      go_cut [6] (fun v wn => v = .int .i64 (f : Int) ∧ At wn w.heap.size 23 #[.int .i64 0, .int .i64 0] ∧ Below w.heap.size w wn)
      case first =>
        clear hN hD
        go_wp2_with fail
        go_loopg [6, 7] t.size (fun g v i wr => ∃ (k a : Nat), k ≤ t.size ∧ v = .int .i64 (a : Int) ∧ i = .int .i64 (k : Int) ∧ Hid (g = t.size - k ∧ a = slA (by_ t) k) ∧ At wr w.heap.size 23 #[.int .i64 0, .int .i64 0] ∧ Below w.heap.size w wr)
        case atStart => exact ⟨0, t.size, Nat.zero_le _, rfl, rfl, Lib.hid ⟨rfl, rfl⟩, kz, HB⟩
        case round =>
          clear kz HB
          obtain ⟨k, a, hk, rfl, rfl, hr, kz, HB⟩ := hrel
          by_cases hlt : k < t.size
          · obtain ⟨c, hc⟩ : ∃ c, t[k] = c := ⟨_, rfl⟩
            have hc' : (by_ t)[k]'hlt = c := hc
            cases h47 : ((c.toNat : Int) == 47)
            · have hne : c ≠ 47 := by rintro rfl; exact absurd h47 (by decide)
              have hs2 : Hid (a = slA (by_ t) (k + 1)) := Lib.hid (by
                rw [hr.out.2]
                have : slash (by_ t) ≠ k := fun e => hne (by rw [← hc']; exact slash_at hlt e)
                unfold slA
                by_cases h : slash (by_ t) < k
                · rw [if_pos h, if_pos (by omega)]
                · rw [if_neg h, if_neg (by omega)])
              clear hne hc'
              go_wp2_with fail
              go_roundg (t.size - (k + 1))
              case measure => have := hr.out.1; omega
              case rel => exact ⟨k + 1, a, by omega, rfl, by go_num, Lib.hid ⟨rfl, hs2.out⟩, kz, HB⟩
            · have hce : c = 47 := by
                have : (c.toNat : Int) = 47 := by simpa using h47
                exact UInt8.toNat_inj.1 (by rw [show c.toNat = 47 by omega]; rfl)
              have hsl : slash (by_ t) ≤ k := slash_first hlt (by rw [hc', hce])
              have hbl : (by_ t).length = t.size := rfl
              by_cases h : slash (by_ t) < k
              · have ea : a = slash (by_ t) := by rw [hr.out.2]; unfold slA; rw [if_pos h]
                have hs2 : Hid (a = slA (by_ t) (k + 1)) := Lib.hid (by rw [ea]; unfold slA; rw [if_pos (by omega)])
                have g1 : ((a : Int) == (t.size : Int)) = false := by simp; omega
                clear ea hsl hce hc' hbl h
                go_wp2_with fail
                go_roundg (t.size - (k + 1))
                case measure => have := hr.out.1; omega
                case rel => exact ⟨k + 1, a, by omega, rfl, by go_num, Lib.hid ⟨rfl, hs2.out⟩, kz, HB⟩
              · have ea : a = t.size := by rw [hr.out.2]; unfold slA; rw [if_neg h]; rfl
                have hs2 : Hid (k = slA (by_ t) (k + 1)) := Lib.hid (by unfold slA; rw [if_pos (by omega)]; omega)
                have g1 : ((a : Int) == (t.size : Int)) = true := by simp; omega
                clear ea hsl hce hc' hbl h
                go_wp2_with fail
                go_roundg (t.size - (k + 1))
                case measure => have := hr.out.1; omega
                case rel => exact ⟨k + 1, k, by omega, rfl, by go_num, Lib.hid ⟨rfl, hs2.out⟩, kz, HB⟩
          · have ea : Hid (a = f) := Lib.hid (by
              have hbl : (by_ t).length = t.size := rfl
              have := slash_le (by_ t)
              rw [hr.out.2, ← hf.out]
              unfold slA
              split <;> omega)
            go_wp2_with fail
            go_meet
            exact ⟨by rw [ea.out], kz, HB⟩
      case rest =>
        clear kz HB
        obtain ⟨rfl, kz, HB⟩ := hcut
        have q1 : (f : Int) ≤ (t.size : Int) := by omega
        rcases hNv : refN (by_ t) with ⟨num, ok⟩
        rcases hDv : refD (by_ t) with ⟨den, ok2⟩
        have HN := Lib.hid (fun w => refnumber_any (t.extract 0 f) (by rw [ByteArray.size_extract]; omega) w)
        rw [← hN, hNv] at HN
        have bn : 0 ≤ num ∧ num ≤ 9223372036854775807 := by
          have e : num = (numR (by_ (t.extract 0 f))).1 := by rw [← hN, hNv]
          rw [e]
          unfold numR
          split
          · decide
          · split
            · simp only; omega
            · decide
        have bdn : 0 ≤ den ∧ den ≤ 9223372036854775807 := by
          have e : den = (refD (by_ t)).1 := by rw [hDv]
          rw [e, hD]
          split
          · unfold numR
            split
            · decide
            · split
              · simp only; omega
              · decide
          · decide
        have hE : Hid (R = if ok && ok2 && fracB (sgR neg num) den && txtL (sgR neg num) den == by_ s then some (sgR neg num, den) else none) := Lib.hid (by
          rw [← hR.out]
          unfold refO
          rw [hbt.out, hNv, hDv, hneg.out])
        clear hN hNv
        go_wp2_with fail
        refine (HN.out _).mono ?_
        rintro e w1 ⟨rfl, rfl⟩
        clear HN
        have Lz := kz.lt
        go_upto_region 13 with fail
        generalize hWW : World.alloc _ _ = W4
        have ka : At W4 wc.heap.size 23 #[.int .i64 num, .int .i64 1] := by rw [← hWW]; exact At.new' rfl
        replace kz : At W4 w.heap.size 23 #[.int .i64 0, .int .i64 0] := by rw [← hWW]; exact At.al kz _
        have hb2 : Below wc.heap.size wc W4 := by rw [← hWW]; exact below_al (Below.refl _ _) _
        replace HB := below_then HB hb2
        clear hWW hb2 hbt
        obtain ⟨Bk, hBk⟩ : ∃ Bk, wc.heap.size = Bk := ⟨_, rfl⟩
        rw [hBk] at ka Lz ⊢
        clear hBk
        go_upto_if 56 with fail
        go_cut [9] (fun v wn => v = .bool (ok && ok2) ∧ At wn w.heap.size 23 #[.int .i64 0, .int .i64 0] ∧ At wn Bk 23 #[.int .i64 num, .int .i64 den] ∧ Below w.heap.size w wn)
        case first =>
          by_cases hlt : f < t.size
          · rw [if_pos hlt] at hD
            have HD := Lib.hid (fun w => refnumber_any (t.extract (f + 1) t.size) (by rw [ByteArray.size_extract]; omega) w)
            rw [← hD, hDv] at HD
            have q2 : (f : Int) + 1 ≤ (t.size : Int) := by omega
            obtain ⟨ka0, ka1, ka2, ka3⟩ := ka.two
            have La := ka.lt
            clear hD hDv
            go_wp2_with fail
            refine (HD.out _).mono ?_
            rintro e w1 ⟨rfl, rfl⟩
            cases ok
            · go_wp2_with fail
              generalize hWW : World.setCell _ _ _ = W5
              replace kz : At W5 w.heap.size 23 #[.int .i64 0, .int .i64 0] := by rw [← hWW]; exact At.far kz (by dsimp only; omega) _
              replace ka : At W5 Bk 23 #[.int .i64 num, .int .i64 den] := by rw [← hWW]; exact At.put1 ka _
              replace HB : Below w.heap.size w W5 := by rw [← hWW]; exact below_set HB (by dsimp only; omega) _
              go_meet
              exact ⟨by simp, kz, ka, HB⟩
            · go_wp2_with fail
              generalize hWW : World.setCell _ _ _ = W5
              replace kz : At W5 w.heap.size 23 #[.int .i64 0, .int .i64 0] := by rw [← hWW]; exact At.far kz (by dsimp only; omega) _
              replace ka : At W5 Bk 23 #[.int .i64 num, .int .i64 den] := by rw [← hWW]; exact At.put1 ka _
              replace HB : Below w.heap.size w W5 := by rw [← hWW]; exact below_set HB (by dsimp only; omega) _
              go_meet
              exact ⟨by simp, kz, ka, HB⟩
          · rw [if_neg hlt, hDv] at hD
            simp only [Prod.mk.injEq] at hD
            obtain ⟨rfl, rfl⟩ := hD
            go_wp2_with fail
            go_meet
            exact ⟨by simp, kz, ka, HB⟩
        case rest =>
          clear kz HB ka
          obtain ⟨rfl, kz, ka, HB⟩ := hcut
          clear hD hDv
          obtain ⟨n, hn⟩ : ∃ n, sgR neg num = n := ⟨_, rfl⟩
          rw [hn] at hE
          go_upto_if 71 with fail
          go_cut [] (fun wn => At wn w.heap.size 23 #[.int .i64 0, .int .i64 0] ∧ At wn Bk 23 #[.int .i64 n, .int .i64 den] ∧ Below w.heap.size w wn)
          case first =>
            obtain ⟨ka0, ka1, ka2, ka3⟩ := ka.two
            have La := ka.lt
            cases neg
            · have e : num = n := hn
              subst e
              go_wp2_with fail
              go_meet
              exact ⟨kz, ka, HB⟩
            · have e : 0 - num = n := hn
              have e2 : IntKind.i64.wrap (0 - num) = n := by rw [wrap_in (by omega)]; exact e
              have e3 : -num = n := by omega
              clear hn e
              go_wp2_with fail
              generalize hWW : World.setCell _ _ _ = W5
              replace kz : At W5 w.heap.size 23 #[.int .i64 0, .int .i64 0] := by rw [← hWW]; exact At.far kz (by dsimp only; omega) _
              replace ka : At W5 Bk 23 #[.int .i64 n, .int .i64 den] := by rw [← hWW]; exact At.put0 ka _
              replace HB : Below w.heap.size w W5 := by rw [← hWW]; exact below_set HB (by dsimp only; omega) _
              go_meet
              exact ⟨kz, ka, HB⟩
          case rest =>
            clear kz HB ka
            obtain ⟨kz, ka, HB⟩ := hcut
            clear hn bn bdn q1 hft hf bt hneg
            cases hok : (ok && ok2)
            · replace hE : Hid (R = none) := Lib.hid (by rw [hE.out, hok]; rfl)
              obtain ⟨kz0, kz1, kz2, kz3⟩ := kz.two
              have Lz := kz.lt
              go_wp2_with fail
              generalize hWW : World.setCell _ _ _ = WW
              have kz' : At WW w.heap.size 23 #[.int .i64 0, .int .i64 0] := by rw [← hWW]; exact At.put1 (At.put0 kz _) _
              have HB' : Below w.heap.size w WW := by rw [← hWW]; exact below_set (below_set HB (Nat.le_refl _) _) (Nat.le_refl _) _
              clear hWW kz0 kz1 kz2 kz3 kz HB
              have k0 := kz'.c0
              have k1 := kz'.c1
              exact bodyPost_ret (v := .tuple #[.agg #[.int .i64 0, .int .i64 0], .bool false]) (by simp [results, Tryd.results37, go_sem, k0, k1]) rfl ⟨by rw [hE.out]; rfl, HB'⟩
            · rw [hok] at hE
              have hv := Lib.hid (fun w => reffvalid_any n den w)
              have La := ka.lt
              cases hf : fracB n den
              · rw [hf] at hE hv
                replace hE : Hid (R = none) := Lib.hid (by rw [hE.out]; rfl)
                obtain ⟨ka0, ka1, ka2, ka3⟩ := ka.two
                clear hf
                go_wp2_with fail
                refine (hv.out _).mono ?_
                rintro e w5 ⟨rfl, hb⟩
                replace kz := At.bel kz hb
                replace HB := below_then HB hb
                clear hb ka0 ka1 ka2 ka3 ka La
                obtain ⟨kz0, kz1, kz2, kz3⟩ := kz.two
                have Lz := kz.lt
                go_wp2_with fail
                generalize hWW : World.setCell _ _ _ = WW
                have kz' : At WW w.heap.size 23 #[.int .i64 0, .int .i64 0] := by rw [← hWW]; exact At.put1 (At.put0 kz _) _
                have HB' : Below w.heap.size w WW := by rw [← hWW]; exact below_set (below_set HB (Nat.le_refl _) _) (Nat.le_refl _) _
                clear hWW kz0 kz1 kz2 kz3 kz HB
                have k0 := kz'.c0
                have k1 := kz'.c1
                exact bodyPost_ret (v := .tuple #[.agg #[.int .i64 0, .int .i64 0], .bool false]) (by simp [results, Tryd.results37, go_sem, k0, k1]) rfl ⟨by rw [hE.out]; rfl, HB'⟩
              · have HT := Lib.hid (fun w => reftext_any n den hf w)
                obtain ⟨st, hst⟩ : ∃ st : ByteArray, (⟨(txtL n den).toArray⟩ : ByteArray) = st := ⟨_, rfl⟩
                rw [hst] at HT
                rw [hf] at hE hv
                have hE : Hid (R = if (st.toList == s.toList) then some (n, den) else none) := Lib.hid (by
                  rw [hE.out]
                  have : (txtL n den == by_ s) = (st.toList == s.toList) := by rw [Lib.toList_data, Lib.toList_data, ← hst]
                  rw [this]
                  rfl)
                obtain ⟨ka0, ka1, ka2, ka3⟩ := ka.two
                clear hf hst
                go_wp2_with fail
                refine (hv.out _).mono ?_
                rintro e w5 ⟨rfl, hb⟩
                replace kz := At.bel kz hb
                replace ka := At.bel ka hb
                replace HB := below_then HB hb
                clear hb ka0 ka1 ka2 ka3 La
                obtain ⟨ka0, ka1, ka2, ka3⟩ := ka.two
                have La := ka.lt
                go_wp2_with fail
                refine (HT.out _).mono ?_
                rintro e w6 ⟨rfl, hb⟩
                replace kz := At.bel kz hb
                replace ka := At.bel ka hb
                replace HB := below_then HB hb
                clear hb ka0 ka1 ka2 ka3 La
                obtain ⟨ka0, ka1, ka2, ka3⟩ := ka.two
                obtain ⟨kz0, kz1, kz2, kz3⟩ := kz.two
                have Lz := kz.lt
                have La := ka.lt
                cases hq : (st.toList == s.toList)
                · replace hE : Hid (R = none) := Lib.hid (by rw [hE.out, hq]; rfl)
                  go_wp2_with fail
                  clear La
                  generalize hWW : World.setCell _ _ _ = WW
                  have kz' : At WW w.heap.size 23 #[.int .i64 0, .int .i64 0] := by rw [← hWW]; exact At.put1 (At.put0 kz _) _
                  have HB' : Below w.heap.size w WW := by rw [← hWW]; exact below_set (below_set HB (Nat.le_refl _) _) (Nat.le_refl _) _
                  clear hWW kz0 kz1 kz2 kz3 kz HB
                  have k0 := kz'.c0
                  have k1 := kz'.c1
                  exact bodyPost_ret (v := .tuple #[.agg #[.int .i64 0, .int .i64 0], .bool false]) (by simp [results, Tryd.results37, go_sem, k0, k1]) rfl ⟨by rw [hE.out]; rfl, HB'⟩
                · replace hE : Hid (R = some (n, den)) := Lib.hid (by rw [hE.out, hq]; rfl)
                  go_wp2_with fail
                  clear La
                  generalize hWW : World.setCell _ _ _ = WW
                  have kz' : At WW w.heap.size 23 #[.int .i64 n, .int .i64 den] := by rw [← hWW]; exact At.put1 (At.put0 kz _) _
                  have HB' : Below w.heap.size w WW := by rw [← hWW]; exact below_set (below_set HB (Nat.le_refl _) _) (Nat.le_refl _) _
                  clear hWW kz0 kz1 kz2 kz3 kz HB
                  have k0 := kz'.c0
                  have k1 := kz'.c1
                  exact bodyPost_ret (v := .tuple #[.agg #[.int .i64 n, .int .i64 den], .bool true]) (by simp [results, Tryd.results37, go_sem, k0, k1]) rfl ⟨by rw [hE.out]; rfl, HB'⟩

end Go.Proofs.YtpijmjffobkalaaDoor
