/- ratio.Sum by its value. -/
import Derived.Test.YtpijmjffobkalaaDoorRaT2
import Derived.Deep.LoopGhost
set_option linter.unusedVariables false
namespace Go.Proofs.YtpijmjffobkalaaDoor
open Go.ChangeShapes Go.WideShapes Go.ChangeAt Go.RowKit

set_option maxRecDepth 100000 in
set_option maxHeartbeats 2000000 in
theorem sum_any7 (l : List (Int × Int)) (ao : Option Addr) (cap : Nat) (hl : l.length ≤ cap) (hc : cap ≤ 9223372036854775807) (w : World) (ha : FrAt w.heap.size w ao l) :
    Calls Tryd.prog 31 #[.slice ao l.length cap] w fun e w' => e = .returned (frv (sumS l)) ∧ Below w.heap.size w w' := by
  have HC := Lib.hid (fun u (hu : w.heap.size ≤ u.heap.size) ha => containsFunc_any l ao cap hl hc w.heap.size u hu ha)
  obtain ⟨R, hR⟩ : ∃ R, sumS l = R := ⟨_, rfl⟩
  rw [hR]
  replace hR := Lib.hid hR
  obtain ⟨n, hn⟩ : ∃ n, l.length = n := ⟨_, rfl⟩
  rw [hn] at HC hl ⊢
  replace hn := Lib.hid hn
  replace ha := Lib.hid ha
  go_enter Tryd.func31, Tryd.ntmps31
  go_wp2_with fail
  generalize hWW : World.alloc _ _ = W0
  have kz : At W0 w.heap.size 23 #[.int .i64 0, .int .i64 0] := by rw [← hWW]; exact At.new' rfl
  have HB : Below w.heap.size w W0 := by rw [← hWW]; exact below_al (Below.refl _ _) _
  replace ha := Lib.hid (ha.out.bel (Nat.le_refl _) HB)
  clear hWW
  refine (HC.out _ HB.size ha).mono ?_
  rintro e w1 ⟨rfl, hb⟩
  replace kz := At.bel kz hb
  replace ha := Lib.hid (ha.out.bel HB.size hb)
  replace HB := below_then HB hb
  clear hb HC
  have Lz := kz.lt
  cases hv : allV l
  · have hE : Hid (R = (0, 0, 1)) := Lib.hid (by rw [← hR.out]; unfold sumS; rw [hv]; rfl)
    clear hv
    obtain ⟨kz0, kz1, kz2, kz3⟩ := kz.two
    go_wp2_with fail
    clear Lz
    generalize hWW : World.setCell _ _ _ = WW
    have kz' : At WW w.heap.size 23 #[.int .i64 0, .int .i64 0] := by rw [← hWW]; exact At.put1 (At.put0 kz _) _
    have HB' : Below w.heap.size w WW := by rw [← hWW]; exact below_set (below_set HB (Nat.le_refl _) _) (Nat.le_refl _) _
    clear hWW kz0 kz1 kz2 kz3 kz HB
    have k0 := kz'.c0
    have k1 := kz'.c1
    exact bodyPost_ret (v := frv (0, 0, 1)) (by simp [results, Tryd.results31, go_sem, k0, k1]) rfl ⟨by rw [hE.out], HB'⟩

  · by_cases h1 : 1000 < n
    · have hE : Hid (R = (0, 0, 4)) := Lib.hid (by rw [← hR.out]; unfold sumS; rw [hv, hn.out, if_pos rfl, if_pos h1])
      have h2 : decide ((1000 : Int) < (n : Int)) = true := by simp; omega
      clear hv
      obtain ⟨kz0, kz1, kz2, kz3⟩ := kz.two
      go_wp2_with fail
      clear Lz
      generalize hWW : World.setCell _ _ _ = WW
      have kz' : At WW w.heap.size 23 #[.int .i64 0, .int .i64 0] := by rw [← hWW]; exact At.put1 (At.put0 kz _) _
      have HB' : Below w.heap.size w WW := by rw [← hWW]; exact below_set (below_set HB (Nat.le_refl _) _) (Nat.le_refl _) _
      clear hWW kz0 kz1 kz2 kz3 kz HB
      have k0 := kz'.c0
      have k1 := kz'.c1
      exact bodyPost_ret (v := frv (0, 0, 4)) (by simp [results, Tryd.results31, go_sem, k0, k1]) rfl ⟨by rw [hE.out], HB'⟩

    · have hE : Hid (R = sumG l 0 1) := Lib.hid (by rw [← hR.out]; unfold sumS; rw [hv, hn.out, if_pos rfl, if_neg h1])
      have h2 : decide ((1000 : Int) < (n : Int)) = false := by simp; omega
      clear hv hR
      go_wp2_with fail
      generalize hWW : World.alloc _ _ = W2
      have kc : At W2 w1.heap.size 23 #[.int .i64 0, .int .i64 1] := by rw [← hWW]; exact At.new' rfl
      replace kz : At W2 w.heap.size 23 #[.int .i64 0, .int .i64 0] := by rw [← hWW]; exact At.al kz _
      have hb2 : Below w1.heap.size w1 W2 := by rw [← hWW]; exact below_al (Below.refl _ _) _
      replace ha := Lib.hid (ha.out.bel HB.size hb2)
      replace HB := below_then HB hb2
      clear hWW hb2
      go_loopg [20] n (fun g i wr => ∃ (k : Nat) (x y : Int), k ≤ n ∧ i = .int .i64 (k : Int) ∧ Hid (g = n - k ∧ sumG (l.drop k) x y = R) ∧ At wr w.heap.size 23 #[.int .i64 0, .int .i64 0] ∧ At wr w1.heap.size 23 #[.int .i64 x, .int .i64 y] ∧ Below w.heap.size w wr ∧ Hid (FrAt w.heap.size wr ao l))
      case atStart => exact ⟨0, 0, 1, Nat.zero_le _, rfl, Lib.hid ⟨rfl, hE.out.symm⟩, kz, kc, HB, ha⟩
      case round =>
        clear ha HB kz kc
        obtain ⟨k, x, y, hk, rfl, hr, kz, kc, HB, ha⟩ := hrel
        have Lc := kc.lt
        by_cases hlt : k < n
        · have hkl : Hid (k < l.length) := Lib.hid (by rw [hn.out]; exact hlt)
          obtain ⟨b, off, rfl, c0, c1, hb⟩ := ha.out k hkl.out
          obtain ⟨u, hu⟩ : ∃ u, l[k]'hkl.out = u := ⟨_, rfl⟩
          rw [hu] at c0 c1
          obtain ⟨x1, x2⟩ := u
          replace hu := Lib.hid hu
          dsimp only at c0 c1
          rcases hs : raddS x y x1 x2 with ⟨s1, s2, er⟩
          have HA := Lib.hid (fun w => by have := radd_any x y x1 x2 w; rw [hs] at this; exact this)
          have hstep : Hid (R = if er = 0 then sumG (l.drop (k + 1)) s1 s2 else (0, 0, er)) := Lib.hid (by
            rw [← hr.out.2, List.drop_eq_getElem_cons hkl.out, hu.out]
            show (if (raddS x y x1 x2).2.2 = 0 then _ else _) = _
            rw [hs])
          replace hs := Lib.hid hs
          obtain ⟨kc0, kc1, kc2, kc3⟩ := kc.two
          go_upto_region 10 with fail
          generalize hWW : World.alloc _ _ = W3
          have ke : At W3 wr.heap.size 23 #[.int .i64 x1, .int .i64 x2] := by rw [← hWW]; exact At.new' rfl
          replace kz : At W3 w.heap.size 23 #[.int .i64 0, .int .i64 0] := by rw [← hWW]; exact At.al kz _
          replace kc : At W3 w1.heap.size 23 #[.int .i64 x, .int .i64 y] := by rw [← hWW]; exact At.al kc _
          have hb3 : Below wr.heap.size wr W3 := by rw [← hWW]; exact below_al (Below.refl _ _) _
          replace ha := Lib.hid (ha.out.bel HB.size hb3)
          replace HB := below_then HB hb3
          clear hWW hb3 kc0 kc1 kc2 kc3 c0 c1 hb
          obtain ⟨kc0, kc1, kc2, kc3⟩ := kc.two
          obtain ⟨ke0, ke1, ke2, ke3⟩ := ke.two
          go_wp2_with fail
          refine (HA.out _).mono ?_
          rintro e w4 ⟨rfl, hb4⟩
          replace kz := At.bel kz hb4
          replace kc := At.bel kc hb4
          replace ha := Lib.hid (ha.out.bel HB.size hb4)
          replace HB := below_then HB hb4
          clear hb4 kc0 kc1 kc2 kc3 ke0 ke1 ke2 ke3 ke
          obtain ⟨kc0, kc1, kc2, kc3⟩ := kc.two
          go_upto_region 11 with fail
          generalize hWW : World.setCell _ _ _ = W5
          have hbz : Hid (FrAt w.heap.size W5 (some ⟨b, off, none⟩) l) := Lib.hid (by
            rw [← hWW]
            exact FrAt.set (FrAt.set ha.out (by dsimp only; omega) _) (by dsimp only; omega) _)
          replace kc : At W5 w1.heap.size 23 #[.int .i64 s1, .int .i64 s2] := by rw [← hWW]; exact At.put1 (At.put0 kc _) _
          replace kz : At W5 w.heap.size 23 #[.int .i64 0, .int .i64 0] := by rw [← hWW]; exact At.far (At.far kz (by dsimp only; omega) _) (by dsimp only; omega) _
          replace HB : Below w.heap.size w W5 := by rw [← hWW]; exact below_set (below_set HB (by dsimp only; omega) _) (by dsimp only; omega) _
          clear hWW kc0 kc1 kc2 kc3 ha
          by_cases h0 : er = 0
          · subst h0
            go_wp2_with fail
            go_roundg (n - (k + 1))
            case measure => have := hr.out.1; omega
            case rel => exact ⟨k + 1, s1, s2, by omega, by go_num, Lib.hid ⟨rfl, by rw [hstep.out]; simp⟩, kz, kc, HB, hbz⟩
          · have h0a : (er == 0) = false := by simpa using h0
            have h0b : (er != 0) = true := by simp [h0]
            have hE' : Hid (R = (0, 0, er)) := Lib.hid (by rw [hstep.out, if_neg h0])
            obtain ⟨kz0, kz1, kz2, kz3⟩ := kz.two
            have Lz := kz.lt
            go_wp2_with fail
            clear Lz
            generalize hWW : World.setCell _ _ _ = WW
            have kz' : At WW w.heap.size 23 #[.int .i64 0, .int .i64 0] := by rw [← hWW]; exact At.put1 (At.put0 kz _) _
            have HB' : Below w.heap.size w WW := by rw [← hWW]; exact below_set (below_set HB (Nat.le_refl _) _) (Nat.le_refl _) _
            clear hWW kz0 kz1 kz2 kz3 kz HB
            have k0 := kz'.c0
            have k1 := kz'.c1
            exact bodyPost_ret (v := frv (0, 0, er)) (by simp [results, Tryd.results31, go_sem, k0, k1]) rfl ⟨by rw [hE'.out], HB'⟩

        · have hE' : Hid (R = (x, y, 0)) := Lib.hid (by
            rw [← hr.out.2, List.drop_of_length_le (by have := hn.out; omega)]
            rfl)
          obtain ⟨kc0, kc1, kc2, kc3⟩ := kc.two
          obtain ⟨kz0, kz1, kz2, kz3⟩ := kz.two
          have Lz := kz.lt
          go_wp2_with fail
          clear Lz Lc kc0 kc1 kc2 kc3 kc
          generalize hWW : World.setCell _ _ _ = WW
          have kz' : At WW w.heap.size 23 #[.int .i64 x, .int .i64 y] := by rw [← hWW]; exact At.put1 (At.put0 kz _) _
          have HB' : Below w.heap.size w WW := by rw [← hWW]; exact below_set (below_set HB (Nat.le_refl _) _) (Nat.le_refl _) _
          clear hWW kz0 kz1 kz2 kz3 kz HB
          have k0 := kz'.c0
          have k1 := kz'.c1
          exact bodyPost_ret (v := frv (x, y, 0)) (by simp [results, Tryd.results31, go_sem, k0, k1]) rfl ⟨by rw [hE'.out], HB'⟩

theorem sum_any (l : List (Int × Int)) (ao : Option Addr) (cap : Nat) (hl : l.length ≤ cap) (hc : cap ≤ 9223372036854775806) (w : World) (ha : FrAt w.heap.size w ao l) :
    Calls Tryd.prog 31 #[.slice ao l.length cap] w fun e w' => e = .returned (frv (sumS l)) ∧ Below w.heap.size w w' := sum_any7 l ao cap hl (by omega) w ha

end Go.Proofs.YtpijmjffobkalaaDoor
