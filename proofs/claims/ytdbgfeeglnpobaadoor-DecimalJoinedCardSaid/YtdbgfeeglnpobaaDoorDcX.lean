/- The reference's symbols, and what begins at a place. -/
import Derived.Test.YtdbgfeeglnpobaaDoorDcN
import Derived.Deep.LoopGhost
import Derived.Deep.DeepCutAuto
import Derived.Deep.CutBlock
set_option linter.unusedVariables false
namespace Go.Proofs.YtdbgfeeglnpobaaDoor
open Go.ChangeShapes Go.WideShapes Go.ChangeAt Go.RowKit

abbrev aloneS : ByteArray := ⟨#[45, 43, 58, 44, 59, 47, 61, 40, 41, 60, 62, 42]⟩
def symT (l : List UInt8) : Bool := (decide ((l.headD 0).toNat = 62) || decide ((l.headD 0).toNat = 60) || decide ((l.headD 0).toNat = 58)) && decide ((l.tail.headD 0).toNat = 61)
theorem symL_eq {l : List UInt8} (h : l ≠ []) : symL l = if symT l then 2 else if symC (l.headD 0) then 1 else 0 := by
  cases l with
  | nil => exact absurd rfl h
  | cons c l => rfl
theorem drop_head (s : ByteArray) (i : Nat) (h : i < s.size) (c : UInt8) (hc : s[i] = c) : ((by_ s).drop i).headD 0 = c ∧ (by_ s).drop i ≠ [] := by
  have e : (by_ s).drop i = (by_ s)[i]'h :: (by_ s).drop (i + 1) := List.drop_eq_getElem_cons h
  have : (by_ s)[i]'h = c := hc
  rw [e, this]
  exact ⟨rfl, by simp⟩
theorem drop_second (s : ByteArray) (i : Nat) (h : i + 1 < s.size) (d : UInt8) (hd : s[i + 1] = d) : ((by_ s).drop i).tail.headD 0 = d := by
  rw [List.tail_drop]
  exact (drop_head s (i + 1) h d hd).1
theorem drop_second_no (s : ByteArray) (i : Nat) (h : ¬ i + 1 < s.size) : ((by_ s).drop i).tail.headD 0 = 0 := by
  rw [List.tail_drop, List.drop_eq_nil_of_le (by rw [by_len]; omega)]
  rfl
theorem beq_no {c : UInt8} {n : Nat} (h : ((c.toNat : Int) == (n : Int)) = false) : ¬ c.toNat = n := fun e => by rw [e] at h; simp at h
theorem beq_yes {c : UInt8} {n : Nat} (h : ((c.toNat : Int) == (n : Int)) = true) : c.toNat = n := by have := of_decide_eq_true h; omega
theorem symC_yes {c x : UInt8} {k : Nat} (hk : k < 12) (hx : aloneS[k]'hk = x) (h : ((c.toNat : Int) == (x.toNat : Int)) = true) : symC c = true := by
  have e : c = x := UInt8.toNat_inj.1 (beq_yes h)
  subst e hx
  unfold symC
  rw [List.contains_iff_mem]
  exact List.getElem_mem (l := [45, 43, 58, 44, 59, 47, 61, 40, 41, 60, 62, 42]) hk
theorem symC_no {c : UInt8} (h : ∀ k (hk : k < 12), ¬ c = aloneS[k]'hk) : symC c = false := by
  unfold symC
  cases g : List.contains [45, 43, 58, 44, 59, 47, 61, 40, 41, 60, 62, 42] c
  · rfl
  · exfalso
    rw [List.contains_iff_mem] at g
    obtain ⟨k, hk, e⟩ := List.getElem_of_mem g
    exact h k hk e.symm

set_option maxRecDepth 100000 in
set_option maxHeartbeats 1000000 in
theorem refsym_any (s : ByteArray) (i : Nat) (hi : i < s.size) (hs : s.size ≤ 9223372036854775806) (w : World) : Calls Tryd.prog 65 #[.string s, .int .i64 (i : Int)] w fun e w' => e = .returned (.int .i64 (symL ((by_ s).drop i) : Int)) ∧ Below w.heap.size w w' := by
  obtain ⟨c, hc⟩ : ∃ c, s[i] = c := ⟨_, rfl⟩
  have D1 := Lib.hid (drop_head s i hi c hc)
  obtain ⟨b, hb⟩ : ∃ b, symT ((by_ s).drop i) = b := ⟨_, rfl⟩
  have hL := Lib.hid (symL_eq D1.out.2)
  rw [hb, D1.out.1] at hL
  replace hb := Lib.hid hb
  go_enter Tryd.func65, Tryd.ntmps65
  go_upto_region 1 with fail
  go_cut [36] (fun t wn => t = .bool b ∧ w = wn)
  case first =>
    have hb' := hb.out
    unfold symT at hb'
    rw [D1.out.1] at hb'
    by_cases h1 : i + 1 < s.size
    · obtain ⟨d, hd⟩ : ∃ d, s[i + 1] = d := ⟨_, rfl⟩
      rw [drop_second s i h1 d hd] at hb'
      cases h2 : ((d.toNat : Int) == 61)
      · have e : Hid (b = false) := Lib.hid (by rw [← hb']; have := beq_no (n := 61) h2; simp [this])
        clear hb'
        go_wp2_with fail
        go_meet
        exact ⟨by rw [e.out], rfl⟩
      · have h2' := beq_yes (n := 61) h2
        rw [h2'] at hb'
        cases h3 : ((c.toNat : Int) == 62)
        · have h3' := beq_no (n := 62) h3
          cases h4 : ((c.toNat : Int) == 60)
          · have h4' := beq_no (n := 60) h4
            cases h5 : ((c.toNat : Int) == 58)
            · have h5' := beq_no (n := 58) h5
              have e : Hid (b = false) := Lib.hid (by rw [← hb']; simp [h3', h4', h5'])
              clear hb' h2' h3' h4' h5'
              go_wp2_with fail
              go_meet
              exact ⟨by rw [e.out], rfl⟩
            · have h5' := beq_yes (n := 58) h5
              have e : Hid (b = true) := Lib.hid (by rw [← hb']; simp [h5'])
              clear hb' h2' h3' h4' h5'
              go_wp2_with fail
              go_meet
              exact ⟨by rw [e.out], rfl⟩
          · have h4' := beq_yes (n := 60) h4
            have e : Hid (b = true) := Lib.hid (by rw [← hb']; simp [h4'])
            clear hb' h2' h3' h4'
            go_wp2_with fail
            go_meet
            exact ⟨by rw [e.out], rfl⟩
        · have h3' := beq_yes (n := 62) h3
          have e : Hid (b = true) := Lib.hid (by rw [← hb']; simp [h3'])
          clear hb' h2' h3'
          go_wp2_with fail
          go_meet
          exact ⟨by rw [e.out], rfl⟩
    · rw [drop_second_no s i h1] at hb'
      have e : Hid (b = false) := Lib.hid (by rw [← hb']; simp)
      clear hb'
      go_wp2_with fail
      go_meet
      exact ⟨by rw [e.out], rfl⟩
  case rest =>
    obtain ⟨rfl, rfl⟩ := hcut
    cases b
    · go_wp2_with fail
      go_loopg [6] 12 (fun g i wr => ∃ k : Nat, k ≤ 12 ∧ i = .int .i64 (k : Int) ∧ Hid (g = 12 - k ∧ ∀ j (hj : j < 12), j < k → ¬ c = aloneS[j]'hj) ∧ Below w.heap.size w wr)
      case atStart => exact ⟨0, by omega, rfl, Lib.hid ⟨rfl, fun j _ h => by omega⟩, Below.refl _ _⟩
      case round =>
        obtain ⟨k, hk, rfl, hr, HB⟩ := hrel
        by_cases hlt : k < 12
        · obtain ⟨x, hx⟩ : ∃ x, aloneS[k]'hlt = x := ⟨_, rfl⟩
          have hx2 : Hid (aloneS[k]'hlt = x) := Lib.hid hx
          cases h : ((c.toNat : Int) == (x.toNat : Int))
          · go_wp2_with fail
            go_quiet (fail)
            go_wp2_with fail
            go_roundg (12 - (k + 1))
            case measure => have := hr.out.1; omega
            case rel =>
              refine ⟨k + 1, by omega, by go_num, Lib.hid ⟨rfl, fun j hj h' => ?_⟩, (by repeat (first | with_reducible assumption | with_reducible exact Below.refl _ _ | with_reducible refine below_al ?_ _ | with_reducible refine below_drew ?_ | with_reducible refine below_drewN ?_ _ | with_reducible refine below_set ?_ (by dsimp only; omega) _))⟩
              rcases Nat.lt_or_ge j k with q | q
              · exact hr.out.2 j hj q
              · have : j = k := by omega
                subst this
                intro e
                subst e
                rw [hx2.out] at h
                simp at h
          · have e := Lib.hid (symC_yes hlt hx h)
            go_wp2_with fail
            go_quiet (fail)
            go_wp2_with fail
            go_ret
            exact ⟨by rw [hL.out, e.out]; rfl, (by repeat (first | with_reducible assumption | with_reducible exact Below.refl _ _ | with_reducible refine below_al ?_ _ | with_reducible refine below_drew ?_ | with_reducible refine below_drewN ?_ _ | with_reducible refine below_set ?_ (by dsimp only; omega) _))⟩
        · have hk12 : k = 12 := by omega
          have e := Lib.hid (symC_no (c := c) fun j hj => hr.out.2 j hj (by omega))
          subst hk12
          go_wp2_with fail
          go_ret
          exact ⟨by rw [hL.out, e.out]; rfl, (by repeat (first | with_reducible assumption | with_reducible exact Below.refl _ _ | with_reducible refine below_al ?_ _ | with_reducible refine below_drew ?_ | with_reducible refine below_drewN ?_ _ | with_reducible refine below_set ?_ (by dsimp only; omega) _))⟩
    · go_wp2_with fail
      go_ret
      exact ⟨by rw [hL.out]; rfl, Below.refl _ _⟩

end Go.Proofs.YtdbgfeeglnpobaaDoor
