/- site: the reference's valid bundles. -/
import Derived.Test.YtpocmijfkjjboaaGreatDoorSiC
set_option linter.unusedVariables false
namespace Go.Proofs.YtpocmijfkjjboaaGreatDoor
open Go.ChangeShapes Go.WideShapes Go.ChangeAt Go.RowKit

theorem bunV_not {l : List Bun} {k : Nat} (hk : k < l.length) (hx : bunOk l[k] = false) : bunV l = false := by
  unfold bunV
  rw [all_not hk hx]
  simp
set_option maxRecDepth 100000 in
set_option maxHeartbeats 1000000 in
theorem valid36_any (l : List Bun) (ao : Option Addr) (cap : Nat) (hl : l.length ≤ cap) (hc : cap ≤ 9223372036854775807) (hs : Hid (∀ x ∈ l, x.tag.size ≤ 60 ∧ x.mark.size ≤ 60)) (w : World) (ha : Hid (RowAt encB 4 w.heap.size w ao l)) :
    Calls Tryz.prog 46 #[.slice ao l.length cap] w fun e w' => e = .returned (.bool (bunV l)) ∧ Below w.heap.size w w' := by
  have HF := Lib.hid (fun (hn : l.length ≤ 1000000) (tag : ByteArray) (u : World) ha => find36_any l tag ao cap hl hn w.heap.size u ha)
  obtain ⟨R, hR⟩ : ∃ R, bunV l = R := ⟨_, rfl⟩
  rw [hR]
  replace hR := Lib.hid hR
  obtain ⟨n, hn'⟩ : ∃ n, l.length = n := ⟨_, rfl⟩
  rw [hn'] at hl HF ⊢
  replace hn' := Lib.hid hn'
  go_enter Tryz.func46, Tryz.ntmps46
  by_cases a1 : 1000 < n
  · have hE : Hid (R = false) := Lib.hid (by rw [← hR.out]; unfold bunV; rw [hn'.out]; simp; omega)
    clear HF
    go_wp2_with fail
    go_ret
    exact ⟨by rw [hE.out]; rfl, Below.refl _ _⟩
  replace HF := Lib.hid (HF.out (by omega))
  go_wp2_with fail
  go_loopg [3] n (fun g i wr => ∃ k : Nat, k ≤ n ∧ i = .int .i64 (k : Int) ∧ Hid (g = n - k ∧ ((l.take k).all bunOk) = true ∧ ∀ (j : Nat) (hj : j < (l.map (·.tag)).length), j < k → ix (l.map (·.tag)) (l.map (·.tag))[j] = j) ∧ Below w.heap.size w wr ∧ Hid (RowAt encB 4 w.heap.size wr ao l))
  case atStart => exact ⟨0, Nat.zero_le _, rfl, Lib.hid ⟨rfl, rfl, fun j _ h => absurd h (Nat.not_lt_zero _)⟩, Below.refl _ _, ha⟩
  case round =>
    clear ha
    obtain ⟨k, hk, rfl, hr, HB, ha⟩ := hrel
    by_cases hlt : k < n
    · have hkl : Hid (k < l.length) := Lib.hid (by rw [hn'.out]; exact hlt)
      have hkt : Hid (k < (l.map (·.tag)).length) := Lib.hid (by rw [List.length_map]; exact hkl.out)
      have hs' := Lib.hid (hs.out _ (List.getElem_mem hkl.out))
      obtain ⟨b, off, rfl, c0, c1, c2, c3, hb⟩ := ha.out.bun k hkl.out
      have hxt : Hid ((l.map (·.tag))[k]'hkt.out = (l[k]'hkl.out).tag) := Lib.hid (List.getElem_map ..)
      obtain ⟨x, hx⟩ : ∃ x, l[k]'hkl.out = x := ⟨_, rfl⟩
      rw [hx] at c0 c1 c2 c3 hs' hxt
      replace hx := Lib.hid hx
      obtain ⟨xt, xm, xc, xs⟩ := x
      dsimp only at c0 c1 c2 c3 hs' hxt
      obtain ⟨b1, hb1⟩ : ∃ b1, nameB (by_ xt) = b1 := ⟨_, rfl⟩
      obtain ⟨b2, hb2⟩ : ∃ b2, nameB (by_ xm) = b2 := ⟨_, rfl⟩
      have HT := Lib.hid (fun u => refisName_any xt (by have := hs'.out.1; omega) u)
      have HM := Lib.hid (fun u => refisName_any xm (by have := hs'.out.2; omega) u)
      rw [hb1] at HT
      rw [hb2] at HM
      replace hb1 := Lib.hid hb1
      replace hb2 := Lib.hid hb2
      go_upto_region 7 with fail
      generalize hWW : World.alloc _ _ = W1
      have kx : At W1 wr.heap.size 73 #[.string xt, .string xm, .int .i64 xc, .int .i64 xs] := by rw [← hWW]; exact At.new' rfl
      have hbW : Below wr.heap.size wr W1 := by rw [← hWW]; exact below_al (Below.refl _ _) _
      replace ha := Lib.hid (ha.out.bel HB.size hbW)
      replace HB := below_then HB hbW
      clear hWW hbW c0 c1 c2 c3 hb
      obtain ⟨k0, k1, k2, k3⟩ := kx.four
      go_wp2_with fail
      refine (HT.out _).mono ?_
      rintro e w' ⟨rfl, rfl⟩
      cases b1
      · have hE : Hid (R = false) := Lib.hid (by rw [← hR.out]; exact bunV_not hkl.out (by rw [hx.out]; unfold bunOk; rw [show nameB (by_ xt) = false from hb1.out]; rfl))
        go_wp2_with fail
        go_ret
        exact ⟨by rw [hE.out]; rfl, (by repeat (first | with_reducible assumption | with_reducible exact Below.refl _ _ | with_reducible refine below_al ?_ _ | with_reducible refine below_drew ?_ | with_reducible refine below_drewN ?_ _ | with_reducible refine below_set ?_ (by dsimp only; omega) _))⟩
      go_wp2_with fail
      refine (HM.out _).mono ?_
      rintro e w' ⟨rfl, rfl⟩
      cases b2
      · have hE : Hid (R = false) := Lib.hid (by rw [← hR.out]; exact bunV_not hkl.out (by rw [hx.out]; unfold bunOk; rw [show nameB (by_ xm) = false from hb2.out]; simp))
        go_wp2_with fail
        go_ret
        exact ⟨by rw [hE.out]; rfl, (by repeat (first | with_reducible assumption | with_reducible exact Below.refl _ _ | with_reducible refine below_al ?_ _ | with_reducible refine below_drew ?_ | with_reducible refine below_drewN ?_ _ | with_reducible refine below_set ?_ (by dsimp only; omega) _))⟩
      by_cases t3 : xc < 1
      · have hE : Hid (R = false) := Lib.hid (by rw [← hR.out]; exact bunV_not hkl.out (by rw [hx.out]; unfold bunOk; have : decide (1 ≤ xc) = false := (by simp; omega); rw [show decide (1 ≤ (Bun.mk xt xm xc xs).count) = false from this]; simp))
        go_wp2_with fail
        go_ret
        exact ⟨by rw [hE.out]; rfl, (by repeat (first | with_reducible assumption | with_reducible exact Below.refl _ _ | with_reducible refine below_al ?_ _ | with_reducible refine below_drew ?_ | with_reducible refine below_drewN ?_ _ | with_reducible refine below_set ?_ (by dsimp only; omega) _))⟩
      by_cases t4 : 1000 < xc
      · have hE : Hid (R = false) := Lib.hid (by rw [← hR.out]; exact bunV_not hkl.out (by rw [hx.out]; unfold bunOk; have : decide (xc ≤ 1000) = false := (by simp; omega); rw [show decide ((Bun.mk xt xm xc xs).count ≤ 1000) = false from this]; simp))
        go_wp2_with fail
        go_ret
        exact ⟨by rw [hE.out]; rfl, (by repeat (first | with_reducible assumption | with_reducible exact Below.refl _ _ | with_reducible refine below_al ?_ _ | with_reducible refine below_drew ?_ | with_reducible refine below_drewN ?_ _ | with_reducible refine below_set ?_ (by dsimp only; omega) _))⟩
      by_cases t5 : xs < 0
      · have hE : Hid (R = false) := Lib.hid (by rw [← hR.out]; exact bunV_not hkl.out (by rw [hx.out]; unfold bunOk; have : decide (0 ≤ xs) = false := (by simp; omega); rw [show decide (0 ≤ (Bun.mk xt xm xc xs).mass) = false from this]; simp))
        go_wp2_with fail
        go_ret
        exact ⟨by rw [hE.out]; rfl, (by repeat (first | with_reducible assumption | with_reducible exact Below.refl _ _ | with_reducible refine below_al ?_ _ | with_reducible refine below_drew ?_ | with_reducible refine below_drewN ?_ _ | with_reducible refine below_set ?_ (by dsimp only; omega) _))⟩
      cases t6 : decide ((1099511627776 : Int) < xs)
      rotate_left
      · have t6' := Lib.hid t6
        have hE : Hid (R = false) := Lib.hid (by rw [← hR.out]; exact bunV_not hkl.out (by rw [hx.out]; unfold bunOk; have : decide (xs ≤ 1099511627776) = false := (by have := of_decide_eq_true t6'.out; simp; omega); rw [show decide ((Bun.mk xt xm xc xs).mass ≤ 1099511627776) = false from this]; simp))
        go_wp2_with fail
        go_ret
        exact ⟨by rw [hE.out]; rfl, (by repeat (first | with_reducible assumption | with_reducible exact Below.refl _ _ | with_reducible refine below_al ?_ _ | with_reducible refine below_drew ?_ | with_reducible refine below_drewN ?_ _ | with_reducible refine below_set ?_ (by dsimp only; omega) _))⟩
      have t6' := Lib.hid t6
      have hok : Hid (bunOk (l[k]'hkl.out) = true) := Lib.hid (by
        rw [hx.out]
        unfold bunOk
        have := of_decide_eq_false t6'.out
        rw [show nameB (by_ xt) = true from hb1.out, show nameB (by_ xm) = true from hb2.out]
        simp
        omega)
      clear t6'
      replace HF := Lib.hid (HF.out xt _ ha)
      obtain ⟨i, hi⟩ : ∃ i, ixI (l.map (·.tag)) xt = i := ⟨_, rfl⟩
      rw [hi] at HF
      go_wp2_with fail
      refine (HF.out).mono ?_
      rintro e w' ⟨rfl, rfl⟩
      by_cases hik : i = (k : Int)
      · have hq : Hid (ix (l.map (·.tag)) xt = k) := Lib.hid (by
          rw [hik] at hi
          unfold ixI at hi
          split at hi
          · omega
          · omega)
        subst hik
        clear hi
        go_wp2_with fail
        go_roundg (n - (k + 1))
        case measure => have := hr.out.1; omega
        case rel =>
          refine ⟨k + 1, by omega, by go_num, Lib.hid ⟨rfl, take_all hkl.out hr.out.2.1 hok.out, ?_⟩, (by repeat (first | with_reducible assumption | with_reducible exact Below.refl _ _ | with_reducible refine below_al ?_ _ | with_reducible refine below_drew ?_ | with_reducible refine below_drewN ?_ _ | with_reducible refine below_set ?_ (by dsimp only; omega) _)), ha⟩
          intro j hj hjk
          by_cases hj2 : j = k
          · subst hj2
            rw [hxt.out]
            exact hq.out
          · exact hr.out.2.2 j hj (by omega)
      · have hE : Hid (R = false) := Lib.hid (by
          rw [← hR.out]
          unfold bunV
          have : ¬ (l.map (·.tag)).Nodup := fun h => by
            have h1 := (nodup_iff _).1 h k hkt.out
            rw [hxt.out] at h1
            unfold ixI at hi
            rw [h1, if_pos hkt.out] at hi
            exact hik hi.symm
          rw [decide_eq_false this]
          simp)
        have hik2 : (i != (k : Int)) = true := by simpa using hik
        clear hi hik
        go_wp2_with fail
        go_ret
        exact ⟨by rw [hE.out]; rfl, (by repeat (first | with_reducible assumption | with_reducible exact Below.refl _ _ | with_reducible refine below_al ?_ _ | with_reducible refine below_drew ?_ | with_reducible refine below_drewN ?_ _ | with_reducible refine below_set ?_ (by dsimp only; omega) _))⟩
    · have hE : Hid (R = true) := Lib.hid (by
        have h0 := hn'.out
        have h1 := hr.out.2.1
        rw [List.take_of_length_le (by omega)] at h1
        rw [← hR.out]
        unfold bunV
        rw [h1, decide_eq_true (by omega : l.length ≤ 1000), decide_eq_true ((nodup_iff _).2 fun j hj => hr.out.2.2 j hj (by rw [List.length_map] at hj; omega))]
        rfl)
      go_wp2_with fail
      go_ret
      exact ⟨by rw [hE.out]; rfl, HB⟩

end Go.Proofs.YtpocmijfkjjboaaGreatDoor
