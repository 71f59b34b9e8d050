/- The reference's All and Sum. -/
import Derived.Test.YtpijmjffobkalaaDoorRaT3
import Derived.Test.YtpijmjffobkalaaDoorReg
import Derived.Deep.LoopGhost
set_option linter.unusedVariables false
namespace Go.Proofs.YtpijmjffobkalaaDoor
open Go.ChangeShapes Go.WideShapes Go.ChangeAt Go.RowKit

set_option maxRecDepth 100000 in
set_option maxHeartbeats 1000000 in
theorem refall_any (l : List (Int × Int)) (ao : Option Addr) (cap : Nat) (hl : l.length ≤ cap) (hc : cap ≤ 9223372036854775806) (w : World) (ha : FrAt w.heap.size w ao l) :
    Calls Tryd.prog 32 #[.slice ao l.length cap] w fun e w' => e = .returned (.bool (allV l)) ∧ Below w.heap.size w w' := by
  obtain ⟨R, hR⟩ : ∃ R, allV l = R := ⟨_, rfl⟩
  rw [hR]
  replace hR := Lib.hid hR
  obtain ⟨n, hn⟩ : ∃ n, l.length = n := ⟨_, rfl⟩
  rw [hn] at hl ⊢
  replace hn := Lib.hid hn
  replace ha := Lib.hid ha
  go_enter Tryd.func32, Tryd.ntmps32
  go_wp2_with fail
  go_loopg [3] n (fun g i wr => ∃ k : Nat, k ≤ n ∧ i = .int .i64 (k : Int) ∧ Hid (g = n - k ∧ ((l.take k).all fun f => fracB f.1 f.2) = true) ∧ Below w.heap.size w wr ∧ Hid (FrAt w.heap.size wr ao l))
  case atStart => exact ⟨0, Nat.zero_le _, rfl, Lib.hid ⟨rfl, rfl⟩, Below.refl _ _, ha⟩
  case round =>
    clear ha
    obtain ⟨k, hk, rfl, hr, HB, ha⟩ := hrel
    by_cases hlt : k < n
    · have hkl : Hid (k < l.length) := Lib.hid (by rw [hn.out]; exact hlt)
      obtain ⟨b, off, rfl, c0, c1, hb⟩ := ha.out k hkl.out
      obtain ⟨x, hx⟩ : ∃ x, l[k]'hkl.out = x := ⟨_, rfl⟩
      rw [hx] at c0 c1
      obtain ⟨x1, x2⟩ := x
      replace hx := Lib.hid hx
      have HC := Lib.hid (fun w => reffvalid_any x1 x2 w)
      dsimp only at c0 c1
      cases hv : fracB x1 x2
      · rw [hv] at HC
        have hE : Hid (R = false) := Lib.hid (by
          rw [← hR.out]
          unfold allV
          cases h : l.all fun f => fracB f.1 f.2
          · rfl
          · have := List.all_eq_true.1 h _ (List.getElem_mem hkl.out)
            rw [hx.out] at this
            rw [show fracB x1 x2 = true from this] at hv
            exact absurd hv (by decide))
        clear hv
        go_wp2_with fail
        refine (HC.out _).mono ?_
        rintro e w1 ⟨rfl, hb1⟩
        replace HB := below_then HB hb1
        clear hb1
        go_wp2_with fail
        go_ret
        exact ⟨by rw [hE.out]; rfl, HB⟩
      · rw [hv] at HC
        replace hv := Lib.hid hv
        go_wp2_with fail
        refine (HC.out _).mono ?_
        rintro e w1 ⟨rfl, hb1⟩
        have ha' := Lib.hid (ha.out.bel HB.size hb1)
        replace HB := below_then HB hb1
        clear hb1 c0 c1 ha hb
        go_wp2_with fail
        go_roundg (n - (k + 1))
        case measure => have := hr.out.1; omega
        case rel =>
          refine ⟨k + 1, by omega, by go_num, Lib.hid ⟨rfl, ?_⟩, HB, ha'⟩
          rw [List.take_succ_eq_append_getElem hkl.out, List.all_append, hr.out.2, hx.out]
          simp [hv.out]
    · have hE : Hid (R = true) := Lib.hid (by
        rw [← hR.out]
        have := hr.out.2
        rwa [List.take_of_length_le (by have := hn.out; omega)] at this)
      go_wp2_with fail
      go_ret
      exact ⟨by rw [hE.out]; rfl, HB⟩

set_option maxRecDepth 100000 in
theorem refOf_any (n : Int) (w : World) : Calls Tryd.prog 59 #[.int .i64 n] w fun e w' => e = .returned (.agg #[.int .i64 n, .int .i64 1]) ∧ Below w.heap.size w w' := by
  go_enter Tryd.func59, Tryd.ntmps59
  go_wp2_with fail
  generalize hWW : World.alloc _ _ = WW
  have kz' : At WW w.heap.size 23 #[.int .i64 n, .int .i64 1] := by rw [← hWW]; exact At.new' rfl
  have HB' : Below w.heap.size w WW := by rw [← hWW]; exact below_al (Below.refl _ _) _
  clear hWW
  have k0 := kz'.c0
  have k1 := kz'.c1
  exact bodyPost_ret (v := .agg #[.int .i64 n, .int .i64 1]) (by simp [results, Tryd.results59, go_sem, k0, k1]) rfl ⟨rfl, HB'⟩
theorem refadd_val (x y x1 x2 : Int) (h1 : fracB x y = true) (h2 : fracB x1 x2 = true) (w : World) :
    Calls Tryd.prog 26 #[.agg #[.int .i64 x, .int .i64 y], .agg #[.int .i64 x1, .int .i64 x2]] w fun e w' => e = .returned (frv (raddS x y x1 x2)) ∧ Below w.heap.size w w' := by
  obtain ⟨p, rfl⟩ : ∃ p : Nat, y = (p : Int) := ⟨y.toNat, by have := (fracB_iff.1 h1).1; omega⟩
  obtain ⟨q, rfl⟩ : ∃ q : Nat, x2 = (q : Int) := ⟨x2.toNat, by have := (fracB_iff.1 h2).1; omega⟩
  rw [raddS_ok h1 h2]
  exact refadd_ok x x1 p q h1 h2 w

set_option maxRecDepth 100000 in
set_option maxHeartbeats 2000000 in
theorem refsum_any (l : List (Int × Int)) (ao : Option Addr) (cap : Nat) (hl : l.length ≤ cap) (hc : cap ≤ 9223372036854775806) (hv : allV l = true) (w : World) (ha : FrAt w.heap.size w ao l) :
    Calls Tryd.prog 33 #[.slice ao l.length cap] w fun e w' => e = .returned (frv (sumS l)) ∧ Below w.heap.size w w' := by
  have HO := Lib.hid (fun w => refOf_any 0 w)
  obtain ⟨R, hR⟩ : ∃ R, sumS l = R := ⟨_, rfl⟩
  rw [hR]
  unfold sumS at hR
  rw [hv, if_pos rfl] at hR
  replace hR := Lib.hid hR
  replace hv := Lib.hid hv
  obtain ⟨n, hn⟩ : ∃ n, l.length = n := ⟨_, rfl⟩
  rw [hn] at hl hR ⊢
  replace hn := Lib.hid hn
  replace ha := Lib.hid ha
  by_cases h1 : 1000 < n
  · have hE : Hid (R = (0, 0, 4)) := Lib.hid (by rw [← hR.out, if_pos h1])
    have h2 : decide ((1000 : Int) < (n : Int)) = true := by simp; omega
    go_enter Tryd.func33, Tryd.ntmps33
    go_upto_region 2 with fail
    generalize hWW : World.alloc _ _ = W0
    have kz : At W0 w.heap.size 23 #[.int .i64 0, .int .i64 0] := by rw [← hWW]; exact At.new' rfl
    have HB : Below w.heap.size w W0 := by rw [← hWW]; exact below_al (Below.refl _ _) _
    clear hWW ha
    obtain ⟨kz0, kz1, kz2, kz3⟩ := kz.two
    go_wp2_with fail
    generalize hWW : World.setCell _ _ _ = WW
    have kz' : At WW w.heap.size 23 #[.int .i64 0, .int .i64 0] := by rw [← hWW]; exact At.put1 (At.put0 kz _) _
    have HB' : Below w.heap.size w WW := by rw [← hWW]; exact below_set (below_set HB (Nat.le_refl _) _) (Nat.le_refl _) _
    clear hWW kz0 kz1 kz2 kz3 kz HB
    have k0 := kz'.c0
    have k1 := kz'.c1
    exact bodyPost_ret (v := frv (0, 0, 4)) (by simp [results, Tryd.results33, go_sem, k0, k1]) rfl ⟨by rw [hE.out], HB'⟩

  · have hE : Hid (R = sumG l 0 1) := Lib.hid (by rw [← hR.out, if_neg h1])
    have h2 : decide ((1000 : Int) < (n : Int)) = false := by simp; omega
    clear hR
    go_enter Tryd.func33, Tryd.ntmps33
    go_upto_region 3 with fail
    generalize hWW : World.alloc _ _ = W0
    have kz : At W0 w.heap.size 23 #[.int .i64 0, .int .i64 0] := by rw [← hWW]; exact At.new' rfl
    have HB : Below w.heap.size w W0 := by rw [← hWW]; exact below_al (Below.refl _ _) _
    replace ha := Lib.hid (ha.out.bel (Nat.le_refl _) HB)
    clear hWW
    go_wp2_with fail
    refine (HO.out _).mono ?_
    rintro e w1 ⟨rfl, hb⟩
    replace kz := At.bel kz hb
    replace ha := Lib.hid (ha.out.bel HB.size hb)
    replace HB := below_then HB hb
    clear hb HO
    have Lz := kz.lt
    go_upto_region 4 with fail
    generalize hWW : World.alloc _ _ = W2
    have kc : At W2 w1.heap.size 23 #[.int .i64 0, .int .i64 1] := by rw [← hWW]; exact At.new' rfl
    replace kz : At W2 w.heap.size 23 #[.int .i64 0, .int .i64 0] := by rw [← hWW]; exact At.al kz _
    have hb2 : Below w1.heap.size w1 W2 := by rw [← hWW]; exact below_al (Below.refl _ _) _
    replace ha := Lib.hid (ha.out.bel HB.size hb2)
    replace HB := below_then HB hb2
    clear hWW hb2
    go_wp2_with fail
    go_loopg [5] n (fun g i wr => ∃ (k : Nat) (x y : Int), k ≤ n ∧ i = .int .i64 (k : Int) ∧ Hid (g = n - k ∧ sumG (l.drop k) x y = R ∧ fracB x y = true) ∧ At wr w.heap.size 23 #[.int .i64 0, .int .i64 0] ∧ At wr w1.heap.size 23 #[.int .i64 x, .int .i64 y] ∧ Below w.heap.size w wr ∧ Hid (FrAt w.heap.size wr ao l))
    case atStart => exact ⟨0, 0, 1, Nat.zero_le _, rfl, Lib.hid ⟨rfl, hE.out.symm, by decide⟩, kz, kc, HB, ha⟩
    case round =>
      clear ha HB kz kc
      obtain ⟨k, x, y, hk, rfl, hr, kz, kc, HB, ha⟩ := hrel
      have Lc := kc.lt
      by_cases hlt : k < n
      · have hkl : Hid (k < l.length) := Lib.hid (by rw [hn.out]; exact hlt)
        obtain ⟨b, off, rfl, c0, c1, hb⟩ := ha.out k hkl.out
        obtain ⟨u, hu⟩ : ∃ u, l[k]'hkl.out = u := ⟨_, rfl⟩
        rw [hu] at c0 c1
        obtain ⟨x1, x2⟩ := u
        have hvu : fracB x1 x2 = true := by
          have := List.all_eq_true.1 hv.out _ (List.getElem_mem hkl.out)
          rw [hu] at this
          exact this
        replace hu := Lib.hid hu
        dsimp only at c0 c1
        have HA := Lib.hid (fun w => refadd_val x y x1 x2 hr.out.2.2 hvu w)
        have hor := raddS_or (an := x) (ad := y) (bn := x1) (bd := x2)
        rcases hs : raddS x y x1 x2 with ⟨s1, s2, er⟩
        rw [hs] at HA hor
        have hval : Hid (er = 0 → fracB s1 s2 = true) := Lib.hid (fun h => by
          rcases hor with ⟨p, q, e, _, _, h3, _⟩ | ⟨e', e, h'⟩
          · simp only [Prod.mk.injEq] at e
            rw [e.1, e.2.1]
            exact h3
          · simp only [Prod.mk.injEq] at e
            rw [h] at e
            rcases h' with h' | h' <;> rw [h'] at e <;> exact absurd e.2.2 (by decide))
        clear hor
        have hstep : Hid (R = if er = 0 then sumG (l.drop (k + 1)) s1 s2 else (0, 0, er)) := Lib.hid (by
          rw [← hr.out.2.1, List.drop_eq_getElem_cons hkl.out, hu.out]
          show (if (raddS x y x1 x2).2.2 = 0 then _ else _) = _
          rw [hs])
        replace hs := Lib.hid hs
        replace hvu := Lib.hid hvu
        have hbw : b < wr.heap.size := Nat.lt_of_lt_of_le hb HB.size
        go_upto_region 7 with fail
        refine wp_only ?_
        refine wp_region_grow1 9 (by kernel_rfl) (o1 := _) (d1 := 6) (t1 := 23) (z1 := #[.int .i64 0, .int .i64 0]) rfl ⟨rfl, rfl, fun _ _ => by rfl⟩ (by kernel_rfl) only_panic ?_
        apply Exists.intro
        refine And.intro (fun W' hW' => ?_) ?_
        focus
          have Kc := At.bel kc hW'
          have Kc0 := cell_regrown Kc.c0
          have Kc1 := cell_regrown Kc.c1
          have Ke0 := cell_regrown ((Below.cell hW' hbw).trans c0)
          have Ke1 := cell_regrown ((Below.cell hW' hbw).trans c1)
          simp only [List.take_succ_cons, List.take_zero]
          repeat (go_big_quiet_step ((first | with_reducible exact regrown_call HA.out)))
          exact wpQuiet_nil rfl
        intro ge v hbv lbe ke
        replace kz := At.bel kz hbv
        replace kc := At.bel kc hbv
        replace ha := Lib.hid (ha.out.bel HB.size hbv)
        replace HB := below_then HB hbv
        have hle := Below.size hbv
        clear c0 c1 hb hbw
        obtain ⟨ke0, ke1, ke2, ke3⟩ := ke.two
        have Le := ke.lt
        simp only [List.drop_succ_cons, List.drop_zero]
        go_upto_region 8 with fail
        generalize hWW : World.setCell _ _ _ = W5
        replace ke : At W5 ge 23 #[.int .i64 s1, .int .i64 s2] := by rw [← hWW]; exact At.put1 (At.put0 ke _) _
        replace kz : At W5 w.heap.size 23 #[.int .i64 0, .int .i64 0] := by rw [← hWW]; exact At.far (At.far kz (by dsimp only; omega) _) (by dsimp only; omega) _
        replace kc : At W5 w1.heap.size 23 #[.int .i64 x, .int .i64 y] := by rw [← hWW]; exact At.far (At.far kc (by dsimp only; omega) _) (by dsimp only; omega) _
        replace ha : Hid (FrAt w.heap.size W5 (some ⟨b, off, none⟩) l) := Lib.hid (by rw [← hWW]; exact FrAt.set (FrAt.set ha.out (by dsimp only; omega) _) (by dsimp only; omega) _)
        replace HB : Below w.heap.size w W5 := by rw [← hWW]; exact below_set (below_set HB (by dsimp only; omega) _) (by dsimp only; omega) _
        clear hWW ke0 ke1 ke2 ke3 Le hbv
        have Le := ke.lt
        by_cases h0 : er = 0
        · subst h0
          obtain ⟨ke0, ke1, ke2, ke3⟩ := ke.two
          obtain ⟨kc0, kc1, kc2, kc3⟩ := kc.two
          go_wp2_with fail
          generalize hWW : World.setCell _ _ _ = W6
          replace kz : At W6 w.heap.size 23 #[.int .i64 0, .int .i64 0] := by rw [← hWW]; exact At.far (At.far kz (by dsimp only; omega) _) (by dsimp only; omega) _
          replace kc : At W6 w1.heap.size 23 #[.int .i64 s1, .int .i64 s2] := by rw [← hWW]; exact At.put1 (At.put0 kc _) _
          replace ha : Hid (FrAt w.heap.size W6 (some ⟨b, off, none⟩) l) := Lib.hid (by rw [← hWW]; exact FrAt.set (FrAt.set ha.out (by dsimp only; omega) _) (by dsimp only; omega) _)
          replace HB : Below w.heap.size w W6 := by rw [← hWW]; exact below_set (below_set HB (by dsimp only; omega) _) (by dsimp only; omega) _
          clear hWW ke0 ke1 ke2 ke3 Le kc0 kc1 kc2 kc3 ke
          go_roundg (n - (k + 1))
          case measure => have := hr.out.1; omega
          case rel => exact ⟨k + 1, s1, s2, by omega, by go_num, Lib.hid ⟨rfl, by rw [hstep.out]; simp, by have := hval.out; simpa using this⟩, kz, kc, HB, ha⟩
        · have h0a : (er == 0) = false := by simpa using h0
          have h0b : (er != 0) = true := by simp [h0]
          have hE' : Hid (R = (0, 0, er)) := Lib.hid (by rw [hstep.out, if_neg h0])
          obtain ⟨kz0, kz1, kz2, kz3⟩ := kz.two
          have Lz := kz.lt
          go_wp2_with fail
          clear Lz Le
          generalize hWW : World.setCell _ _ _ = WW
          have kz' : At WW w.heap.size 23 #[.int .i64 0, .int .i64 0] := by rw [← hWW]; exact At.put1 (At.put0 kz _) _
          have HB' : Below w.heap.size w WW := by rw [← hWW]; exact below_set (below_set HB (Nat.le_refl _) _) (Nat.le_refl _) _
          clear hWW kz0 kz1 kz2 kz3 kz HB
          have k0 := kz'.c0
          have k1 := kz'.c1
          exact bodyPost_ret (v := frv (0, 0, er)) (by simp [results, Tryd.results33, go_sem, k0, k1]) rfl ⟨by rw [hE'.out], HB'⟩

      · have hE' : Hid (R = (x, y, 0)) := Lib.hid (by
          rw [← hr.out.2.1, List.drop_of_length_le (by have := hn.out; omega)]
          rfl)
        obtain ⟨kc0, kc1, kc2, kc3⟩ := kc.two
        obtain ⟨kz0, kz1, kz2, kz3⟩ := kz.two
        have Lz := kz.lt
        go_wp2_with fail
        clear Lz Lc kc0 kc1 kc2 kc3 kc
        generalize hWW : World.setCell _ _ _ = WW
        have kz' : At WW w.heap.size 23 #[.int .i64 x, .int .i64 y] := by rw [← hWW]; exact At.put1 (At.put0 kz _) _
        have HB' : Below w.heap.size w WW := by rw [← hWW]; exact below_set (below_set HB (Nat.le_refl _) _) (Nat.le_refl _) _
        clear hWW kz0 kz1 kz2 kz3 kz HB
        have k0 := kz'.c0
        have k1 := kz'.c1
        exact bodyPost_ret (v := frv (x, y, 0)) (by simp [results, Tryd.results33, go_sem, k0, k1]) rfl ⟨by rw [hE'.out], HB'⟩

end Go.Proofs.YtpijmjffobkalaaDoor
