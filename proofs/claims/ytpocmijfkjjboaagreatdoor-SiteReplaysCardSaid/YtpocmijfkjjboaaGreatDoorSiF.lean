/- journal.Valid and the reference's: a log is valid. -/
import Derived.Test.YtpocmijfkjjboaaGreatDoorEnB
import Derived.Test.YtpocmijfkjjboaaGreatDoorReg
set_option linter.unusedVariables false
namespace Go.Proofs.YtpocmijfkjjboaaGreatDoor
open Go.ChangeShapes Go.WideShapes Go.ChangeAt Go.RowKit

def entOk (x : Ent) : Bool := decide (0 ≤ x.day) && decide (x.day ≤ 1000000) && decide (1 ≤ x.kind) && decide (x.kind ≤ 6) && nameB (by_ x.name)
/-- A log is valid. -/
def logV (l : List Ent) : Bool := decide (l.length ≤ 1000) && l.all entOk && decide (l.Pairwise fun a b => a.day ≤ b.day)
theorem all_takeE {p : Ent → Bool} {l : List Ent} {k : Nat} (hk : k < l.length) (h : ((l.take k).all p) = true) (hx : p l[k] = true) : ((l.take (k + 1)).all p) = true := by
  rw [List.take_succ_eq_append_getElem hk, List.all_append, h]
  simp [hx]
theorem logV_not {l : List Ent} {k : Nat} (hk : k < l.length) (hx : entOk l[k] = false) : logV l = false := by
  unfold logV
  have : l.all entOk = false := by
    cases h : l.all entOk
    · rfl
    · have := List.all_eq_true.1 h _ (List.getElem_mem hk)
      rw [hx] at this
      exact absurd this (by decide)
  rw [this]
  simp
theorem logV_fall {l : List Ent} {j : Nat} (hk : j + 1 < l.length) (h : l[j + 1].day < (l[j]'(by omega)).day) : logV l = false := by
  unfold logV
  have : ¬ l.Pairwise fun a b => a.day ≤ b.day := fun hp => by
    have := List.pairwise_iff_getElem.1 hp j (j + 1) (by omega) hk (by omega)
    omega
  rw [decide_eq_false this]
  simp
theorem pw_step {l : List Ent} {k : Nat} (hk : k < l.length) (h : (l.take k).Pairwise fun a b => a.day ≤ b.day) (hx : ∀ (j : Nat) (hj : j + 1 = k), (l[j]'(by omega)).day ≤ l[k].day) : (l.take (k + 1)).Pairwise fun a b => a.day ≤ b.day := by
  rw [List.take_succ_eq_append_getElem hk, List.pairwise_append]
  refine ⟨h, List.pairwise_singleton _ _, fun a ha b hb => ?_⟩
  obtain rfl : b = l[k] := by simpa using hb
  rw [List.mem_take_iff_getElem] at ha
  obtain ⟨i, hi, rfl⟩ := ha
  rcases Nat.lt_or_ge (i + 1) k with q | q
  · have hp := List.pairwise_iff_getElem.1 h i (k - 1) (by rw [List.length_take]; omega) (by rw [List.length_take]; omega) (by omega)
    rw [List.getElem_take, List.getElem_take] at hp
    have := hx (k - 1) (by omega)
    omega
  · exact hx i (by omega)
theorem logV_all {l : List Ent} (h0 : l.length ≤ 1000) (h1 : (l.all entOk) = true) (h2 : l.Pairwise fun a b => a.day ≤ b.day) : logV l = true := by
  unfold logV
  rw [h1, decide_eq_true h0, decide_eq_true h2]
  rfl

set_option maxRecDepth 100000 in
set_option maxHeartbeats 2000000 in
theorem jvalid_any (l : List Ent) (ao : Option Addr) (cap : Nat) (hl : l.length ≤ cap) (hc : cap ≤ 9223372036854775807) (hs : Hid (∀ x ∈ l, x.name.size ≤ 9223372036854775806)) (w : World) (ha : Hid (RowAt encE 3 w.heap.size w ao l)) :
    Calls Tryz.prog 35 #[.slice ao l.length cap] w fun e w' => e = .returned (.bool (logV l)) ∧ Below w.heap.size w w' := by
  obtain ⟨R, hR⟩ : ∃ R, logV l = R := ⟨_, rfl⟩
  rw [hR]
  replace hR := Lib.hid hR
  obtain ⟨n, hn'⟩ : ∃ n, l.length = n := ⟨_, rfl⟩
  rw [hn'] at hl ⊢
  replace hn' := Lib.hid hn'
  go_enter Tryz.func35, Tryz.ntmps35
  by_cases a1 : 1000 < n
  · have hE : Hid (R = false) := Lib.hid (by rw [← hR.out]; unfold logV; rw [hn'.out]; simp; omega)
    go_wp2_with fail
    go_ret
    exact ⟨by rw [hE.out]; rfl, Below.refl _ _⟩
  go_wp2_with fail
  go_loopg [10] n (fun g i wr => ∃ k : Nat, k ≤ n ∧ i = .int .i64 (k : Int) ∧ Hid (g = n - k ∧ ((l.take k).all entOk) = true ∧ (l.take k).Pairwise fun a b => a.day ≤ b.day) ∧ Below w.heap.size w wr ∧ Hid (RowAt encE 3 w.heap.size wr ao l))
  case atStart => exact ⟨0, Nat.zero_le _, rfl, Lib.hid ⟨rfl, rfl, List.Pairwise.nil⟩, Below.refl _ _, ha⟩
  case round =>
    clear ha
    obtain ⟨k, hk, rfl, hr, HB, ha⟩ := hrel
    by_cases hlt : k < n
    · have hkl : Hid (k < l.length) := Lib.hid (by rw [hn'.out]; exact hlt)
      have hs' := Lib.hid (hs.out _ (List.getElem_mem hkl.out))
      obtain ⟨b, off, rfl, c0, c1, c2, hb⟩ := ha.out.ent k hkl.out
      obtain ⟨x, hx⟩ : ∃ x, l[k]'hkl.out = x := ⟨_, rfl⟩
      rw [hx] at c0 c1 c2 hs'
      replace hx := Lib.hid hx
      obtain ⟨xd, xk, xn⟩ := x
      dsimp only at c0 c1 c2 hs'
      obtain ⟨b1, hb1⟩ : ∃ b1, nameB (by_ xn) = b1 := ⟨_, rfl⟩
      have HN : Hid (∀ u, Calls Tryz.prog 34 #[.string xn] u fun e w' => e = .returned (.bool (nameB (by_ xn))) ∧ Below u.heap.size u w') := Lib.hid (fun u => (isName_any xn hs'.out u).mono fun e w' h => ⟨h.1, h.2 ▸ Below.refl _ _⟩)
      rw [hb1] at HN
      replace hb1 := Lib.hid hb1
      go_upto_region 6 with fail
      generalize hWW : World.alloc _ _ = W1
      have kx : At W1 wr.heap.size 39 #[.int .i64 xd, .int .i64 xk, .string xn] := by rw [← hWW]; exact At.new' rfl
      have hbW : Below wr.heap.size wr W1 := by rw [← hWW]; exact below_al (Below.refl _ _) _
      replace ha := Lib.hid (ha.out.bel HB.size hbW)
      replace HB := below_then HB hbW
      have HBs := HB.size
      clear hWW hbW c0 c1 c2 hb
      obtain ⟨k0, k1, k2⟩ := kx.three
      have K0 := cell_regrown k0
      have K1 := cell_regrown k1
      have K2 := cell_regrown k2
      by_cases t1 : xd < 0
      · have hE : Hid (R = false) := Lib.hid (by 
          have : decide (0 ≤ xd) = false := by simp; omega
          rw [← hR.out]
          exact logV_not hkl.out (by rw [hx.out]; unfold entOk; rw [show decide (0 ≤ (Ent.mk xd xk xn).day) = false from this]; simp))
        refine wp_region_quiet_below (by kernel_rfl) (by kernel_rfl) ?_
        repeat (go_big_quiet_step ((first | with_reducible exact regrown_call HN.out)))
        refine wpQuiet_nil ?_
        intro v hb'
        have hb := below_of_regrown hb'
        replace HB := below_then HB hb
        clear hb' hb
        go_wp2_with fail
        go_ret
        exact ⟨by rw [hE.out]; rfl, HB⟩
      cases t2 : decide ((1000000 : Int) < xd)
      rotate_left
      · have t2' := of_decide_eq_true t2
        have hE : Hid (R = false) := Lib.hid (by 
          have : decide (xd ≤ 1000000) = false := by simp; omega
          rw [← hR.out]
          exact logV_not hkl.out (by rw [hx.out]; unfold entOk; rw [show decide ((Ent.mk xd xk xn).day ≤ 1000000) = false from this]; simp))
        refine wp_region_quiet_below (by kernel_rfl) (by kernel_rfl) ?_
        repeat (go_big_quiet_step ((first | with_reducible exact regrown_call HN.out)))
        refine wpQuiet_nil ?_
        intro v hb'
        have hb := below_of_regrown hb'
        replace HB := below_then HB hb
        clear hb' hb
        go_wp2_with fail
        go_ret
        exact ⟨by rw [hE.out]; rfl, HB⟩
      have t2' := Lib.hid (of_decide_eq_false t2)
      by_cases t3 : xk < 1
      · have hE : Hid (R = false) := Lib.hid (by 
          have : decide (1 ≤ xk) = false := by simp; omega
          rw [← hR.out]
          exact logV_not hkl.out (by rw [hx.out]; unfold entOk; rw [show decide (1 ≤ (Ent.mk xd xk xn).kind) = false from this]; simp))
        refine wp_region_quiet_below (by kernel_rfl) (by kernel_rfl) ?_
        repeat (go_big_quiet_step ((first | with_reducible exact regrown_call HN.out)))
        refine wpQuiet_nil ?_
        intro v hb'
        have hb := below_of_regrown hb'
        replace HB := below_then HB hb
        clear hb' hb
        go_wp2_with fail
        go_ret
        exact ⟨by rw [hE.out]; rfl, HB⟩
      by_cases t4 : 6 < xk
      · have hE : Hid (R = false) := Lib.hid (by 
          have : decide (xk ≤ 6) = false := by simp; omega
          rw [← hR.out]
          exact logV_not hkl.out (by rw [hx.out]; unfold entOk; rw [show decide ((Ent.mk xd xk xn).kind ≤ 6) = false from this]; simp))
        refine wp_region_quiet_below (by kernel_rfl) (by kernel_rfl) ?_
        repeat (go_big_quiet_step ((first | with_reducible exact regrown_call HN.out)))
        refine wpQuiet_nil ?_
        intro v hb'
        have hb := below_of_regrown hb'
        replace HB := below_then HB hb
        clear hb' hb
        go_wp2_with fail
        go_ret
        exact ⟨by rw [hE.out]; rfl, HB⟩
      cases b1
      · have hE : Hid (R = false) := Lib.hid (by 
          rw [← hR.out]
          exact logV_not hkl.out (by rw [hx.out]; unfold entOk; rw [show nameB (by_ (Ent.mk xd xk xn).name) = false from hb1.out]; simp))
        refine wp_region_quiet_below (by kernel_rfl) (by kernel_rfl) ?_
        repeat (go_big_quiet_step ((first | with_reducible exact regrown_call HN.out)))
        refine wpQuiet_nil ?_
        intro v hb'
        have hb := below_of_regrown hb'
        replace HB := below_then HB hb
        clear hb' hb
        go_wp2_with fail
        go_ret
        exact ⟨by rw [hE.out]; rfl, HB⟩
      have hok : Hid (entOk (l[k]'hkl.out) = true) := Lib.hid (by
        rw [hx.out]
        unfold entOk
        have := t2'.out
        rw [show nameB (by_ (Ent.mk xd xk xn).name) = true from hb1.out]
        simp
        omega)
      rcases k with _ | j
      · have z0 : decide ((0 : Int) < ((0 : Nat) : Int)) = false := by decide
        refine wp_region_quiet_below (by kernel_rfl) (by kernel_rfl) ?_
        repeat (go_big_quiet_step ((first | with_reducible exact regrown_call HN.out)))
        refine wpQuiet_nil ?_
        intro v hb'
        have hb := below_of_regrown hb'
        replace HB := below_then HB hb
        replace ha := Lib.hid (ha.out.bel (by first | exact HBs | exact HB.size) hb)
        clear hb' hb
        go_wp2_with fail
        go_roundg (n - (0 + 1))
        case measure => have := hr.out.1; omega
        case rel => exact ⟨0 + 1, by omega, by go_num, Lib.hid ⟨rfl, all_takeE hkl.out hr.out.2.1 hok.out, pw_step hkl.out hr.out.2.2 (fun j hj => absurd hj (by omega))⟩, HB, ha⟩
      · have hjl : Hid (j < l.length) := Lib.hid (by have := hkl.out; omega)
        obtain ⟨b', off', e, p0, p1, p2, hb⟩ := ha.out.ent j hjl.out
        simp only [Option.some.injEq, Addr.mk.injEq, and_true] at e
        obtain ⟨rfl, rfl⟩ := e
        obtain ⟨y, hy⟩ : ∃ y, (l[j]'hjl.out).day = y := ⟨_, rfl⟩
        rw [hy] at p0
        replace hy := Lib.hid hy
        clear p1 p2 hb
        have P0 := cell_regrown p0
        have hjw : IntKind.i64.wrap (((j + 1 : Nat) : Int) - 1) = (j : Int) := by rw [IntWalk.i64_in _ (by omega)]; omega
        have hjp : decide ((0 : Int) < ((j + 1 : Nat) : Int)) = true := by simp
        by_cases t6 : xd < y
        · have t6' := Lib.hid t6
          have hE : Hid (R = false) := Lib.hid (by rw [← hR.out]; exact logV_fall hkl.out (by rw [hx.out, hy.out]; exact t6'.out))
          refine wp_region_quiet_below (by kernel_rfl) (by kernel_rfl) ?_
          repeat (go_big_quiet_step ((first | with_reducible exact regrown_call HN.out)))
          refine wpQuiet_nil ?_
          intro v hb'
          have hb := below_of_regrown hb'
          replace HB := below_then HB hb
          clear hb' hb
          go_wp2_with fail
          go_ret
          exact ⟨by rw [hE.out]; rfl, HB⟩
        · have t6' : Hid (y ≤ xd) := Lib.hid (by omega)
          refine wp_region_quiet_below (by kernel_rfl) (by kernel_rfl) ?_
          repeat (go_big_quiet_step ((first | with_reducible exact regrown_call HN.out)))
          refine wpQuiet_nil ?_
          intro v hb'
          have hb := below_of_regrown hb'
          replace HB := below_then HB hb
          replace ha := Lib.hid (ha.out.bel (by first | exact HBs | exact HB.size) hb)
          clear hb' hb
          go_wp2_with fail
          go_roundg (n - (j + 1 + 1))
          case measure => have := hr.out.1; omega
          case rel => exact ⟨j + 1 + 1, by omega, by go_num, Lib.hid ⟨rfl, all_takeE hkl.out hr.out.2.1 hok.out, pw_step hkl.out hr.out.2.2 (fun i hi => by obtain rfl : i = j := (by omega); rw [hx.out, hy.out]; exact t6'.out)⟩, HB, ha⟩
    · have hE : Hid (R = true) := Lib.hid (by
        have h0 := hn'.out
        have h1 := hr.out.2
        rw [List.take_of_length_le (by omega)] at h1
        rw [← hR.out]
        exact logV_all (by omega) h1.1 h1.2)
      go_wp2_with fail
      go_ret
      exact ⟨by rw [hE.out]; rfl, HB⟩

def lastDay (l : List Ent) : Int := match l.getLast? with | some x => x.day | none => 0
theorem lastDay_take {l : List Ent} {k : Nat} (hk : k < l.length) : lastDay (l.take (k + 1)) = l[k].day := by
  unfold lastDay
  rw [List.take_succ_eq_append_getElem hk, List.getLast?_concat]
theorem lastDay_prev {l : List Ent} {k j : Nat} (hj : j + 1 = k) (hk : k ≤ l.length) : lastDay (l.take k) = (l[j]'(by omega)).day := by
  subst hj
  exact lastDay_take (by omega)
set_option maxRecDepth 100000 in
set_option maxHeartbeats 2000000 in
theorem jvalid43_any (l : List Ent) (ao : Option Addr) (cap : Nat) (hl : l.length ≤ cap) (hc : cap ≤ 9223372036854775807) (hs : Hid (∀ x ∈ l, x.name.size ≤ 9223372036854775806)) (w : World) (ha : Hid (RowAt encE 3 w.heap.size w ao l)) :
    Calls Tryz.prog 71 #[.slice ao l.length cap] w fun e w' => e = .returned (.bool (logV l)) ∧ w = w' := by
  obtain ⟨R, hR⟩ : ∃ R, logV l = R := ⟨_, rfl⟩
  rw [hR]
  replace hR := Lib.hid hR
  obtain ⟨n, hn'⟩ : ∃ n, l.length = n := ⟨_, rfl⟩
  rw [hn'] at hl ⊢
  replace hn' := Lib.hid hn'
  go_enter Tryz.func71, Tryz.ntmps71
  by_cases a1 : 1000 < n
  · have hE : Hid (R = false) := Lib.hid (by rw [← hR.out]; unfold logV; rw [hn'.out]; simp; omega)
    go_wp2_with fail
    go_ret
    exact ⟨by rw [hE.out]; rfl, rfl⟩
  go_wp2_with fail
  go_loopg [4, 3] n (fun g i d wr => ∃ (k : Nat) (z : Int), k ≤ n ∧ i = .int .i64 (k : Int) ∧ d = .int .i64 z ∧ Hid (g = n - k ∧ z = lastDay (l.take k) ∧ 0 ≤ z ∧ ((l.take k).all entOk) = true ∧ (l.take k).Pairwise fun a b => a.day ≤ b.day) ∧ w = wr)
  case atStart => exact ⟨0, 0, Nat.zero_le _, rfl, rfl, Lib.hid ⟨rfl, rfl, Int.le_refl _, rfl, List.Pairwise.nil⟩, rfl⟩
  case round =>
    obtain ⟨k, z, hk, rfl, rfl, hr, rfl⟩ := hrel
    by_cases hlt : k < n
    · have hkl : Hid (k < l.length) := Lib.hid (by rw [hn'.out]; exact hlt)
      have hs' := Lib.hid (hs.out _ (List.getElem_mem hkl.out))
      obtain ⟨b, off, rfl, c0, c1, c2, hb⟩ := ha.out.ent k hkl.out
      obtain ⟨x, hx⟩ : ∃ x, l[k]'hkl.out = x := ⟨_, rfl⟩
      rw [hx] at c0 c1 c2 hs'
      replace hx := Lib.hid hx
      obtain ⟨xd, xk, xn⟩ := x
      dsimp only at c0 c1 c2 hs'
      obtain ⟨b1, hb1⟩ : ∃ b1, nameB (by_ xn) = b1 := ⟨_, rfl⟩
      have HN := Lib.hid (fun u => refisName_any xn hs'.out u)
      rw [hb1] at HN
      replace hb1 := Lib.hid hb1
      clear hb
      have hfall : Hid (xd < z → logV l = false) := Lib.hid (fun h => by
        rcases Nat.eq_zero_or_pos k with h0 | h0
        · refine logV_not hkl.out ?_
          have := hr.out.2.1
          subst h0
          have hz : z = 0 := this
          rw [hx.out]
          unfold entOk
          have h2 : decide (0 ≤ xd) = false := by simp; omega
          rw [show decide (0 ≤ (Ent.mk xd xk xn).day) = false from h2]
          simp
        · have h1 := hr.out.2.1
          rw [lastDay_prev (j := k - 1) (by omega) (by have := hkl.out; omega)] at h1
          have hk1 : k - 1 + 1 = k := by omega
          have hl1 : k - 1 + 1 < l.length := by rw [hk1]; exact hkl.out
          have h2 := logV_fall (l := l) (j := k - 1) hl1
          apply h2
          have h3 : l[k - 1 + 1]'hl1 = l[k]'hkl.out := by congr 1
          rw [h3, hx.out, ← h1]
          exact h)
      by_cases t0 : xd < z
      · have t0' := Lib.hid t0
        have hE : Hid (R = false) := Lib.hid (by rw [← hR.out]; exact hfall.out t0'.out)
        go_wp2_with fail
        go_ret
        exact ⟨by rw [hE.out]; rfl, rfl⟩
      have t0' := Lib.hid t0
      cases t2 : decide ((1000000 : Int) < xd)
      rotate_left
      · have t2' := of_decide_eq_true t2
        have hE : Hid (R = false) := Lib.hid (by 
          have : decide (xd ≤ 1000000) = false := by simp; omega
          rw [← hR.out]
          exact logV_not hkl.out (by rw [hx.out]; unfold entOk; rw [show decide ((Ent.mk xd xk xn).day ≤ 1000000) = false from this]; simp))
        go_wp2_with fail
        go_ret
        exact ⟨by rw [hE.out]; rfl, rfl⟩
      have t2' := Lib.hid (of_decide_eq_false t2)
      by_cases t3 : xk < 1
      · have hE : Hid (R = false) := Lib.hid (by 
          have : decide (1 ≤ xk) = false := by simp; omega
          rw [← hR.out]
          exact logV_not hkl.out (by rw [hx.out]; unfold entOk; rw [show decide (1 ≤ (Ent.mk xd xk xn).kind) = false from this]; simp))
        go_wp2_with fail
        go_ret
        exact ⟨by rw [hE.out]; rfl, rfl⟩
      by_cases t4 : 6 < xk
      · have hE : Hid (R = false) := Lib.hid (by 
          have : decide (xk ≤ 6) = false := by simp; omega
          rw [← hR.out]
          exact logV_not hkl.out (by rw [hx.out]; unfold entOk; rw [show decide ((Ent.mk xd xk xn).kind ≤ 6) = false from this]; simp))
        go_wp2_with fail
        go_ret
        exact ⟨by rw [hE.out]; rfl, rfl⟩
      go_wp2_with fail
      refine (HN.out _).mono ?_
      rintro e w' ⟨rfl, rfl⟩
      cases b1
      · have hE : Hid (R = false) := Lib.hid (by 
          rw [← hR.out]
          exact logV_not hkl.out (by rw [hx.out]; unfold entOk; rw [show nameB (by_ (Ent.mk xd xk xn).name) = false from hb1.out]; simp))
        go_wp2_with fail
        go_ret
        exact ⟨by rw [hE.out]; rfl, rfl⟩
      have hok : Hid (entOk (l[k]'hkl.out) = true) := Lib.hid (by
        rw [hx.out]
        unfold entOk
        have := t2'.out
        have := t0'.out
        have := hr.out.2.2.1
        rw [show nameB (by_ (Ent.mk xd xk xn).name) = true from hb1.out]
        simp
        omega)
      go_wp2_with fail
      go_roundg (n - (k + 1))
      case measure => have := hr.out.1; omega
      case rel =>
        refine ⟨k + 1, xd, by omega, by go_num, rfl, Lib.hid ⟨rfl, by rw [lastDay_take hkl.out, hx.out], by have := t0'.out; have := hr.out.2.2.1; omega, all_takeE hkl.out hr.out.2.2.2.1 hok.out, pw_step hkl.out hr.out.2.2.2.2 (fun j hj => ?_)⟩, rfl⟩
        have h1 := hr.out.2.1
        rw [lastDay_prev hj (by have := hkl.out; omega)] at h1
        rw [hx.out, ← h1]
        have := t0'.out
        omega
    · have hE : Hid (R = true) := Lib.hid (by
        have h0 := hn'.out
        have h1 := hr.out.2.2.2
        rw [List.take_of_length_le (by omega)] at h1
        rw [← hR.out]
        exact logV_all (by omega) h1.1 h1.2)
      go_wp2_with fail
      go_ret
      exact ⟨by rw [hE.out]; rfl, rfl⟩

end Go.Proofs.YtpocmijfkjjboaaGreatDoor
