/- the reference: Account. -/
import Derived.Test.YtpocmijfkjjboaaGreatDoorSiI
set_option linter.unusedVariables false
namespace Go.Proofs.YtpocmijfkjjboaaGreatDoor
open Go.ChangeShapes Go.WideShapes Go.ChangeAt Go.RowKit

set_option maxRecDepth 100000 in
set_option maxHeartbeats 2000000 in
theorem refaccount_any (s : St) (hok : s.ok) (g : Nat) (p : RV) (w : World) (hs : RefW w g s p) :
    Calls Tryz.prog 29 #[.pointer (some ⟨g, 0, none⟩)] w fun e w' => e = .returned (.tuple #[.int .i64 (s.at_.count 0 : Nat), .int .i64 (s.at_.count 1 : Nat), .int .i64 (s.at_.count 2 : Nat)]) ∧ Below w.heap.size w w' := by
  obtain ⟨aw, cw, hvw, hl2, hc2, -, -⟩ := hs.wher.view encN_len
  obtain ⟨n, hn⟩ : ∃ n, s.at_.length = n := ⟨_, rfl⟩
  have hn1 : n ≤ 1000 := by have := hok.tagsN; have := hok.len; omega
  rw [hn] at hl2 hvw
  obtain ⟨R0, hR0⟩ : ∃ R, s.at_.count 0 = R := ⟨_, rfl⟩
  obtain ⟨R1, hR1⟩ : ∃ R, s.at_.count 1 = R := ⟨_, rfl⟩
  obtain ⟨R2, hR2⟩ : ∃ R, s.at_.count 2 = R := ⟨_, rfl⟩
  rw [hR0, hR1, hR2]
  have hR := Lib.hid (Cnt.mk hR0 hR1 hR2)
  clear hR0 hR1 hR2
  have hle := Lib.hid hok.le
  have hs0 := Lib.hid hs
  clear hok
  have z1 : w.cell? ⟨g, 1, none⟩ = some (.slice aw n cw) := by
    have := hs.own.c 1
    rw [hvw] at this
    exact this
  have Lg : g < w.heap.size := hs.own.lt
  replace hn := Lib.hid hn
  replace hvw := Lib.hid hvw
  clear hs
  go_enter Tryz.func29, Tryz.ntmps29
  go_wp2_with fail
  go_loopg [6] n (fun g1 i wr => ∃ (k x0 x1 x2 : Nat), k ≤ n ∧ i = .int .i64 (k : Int) ∧ Hid (g1 = n - k ∧ Cnt (s.at_.take k) x0 x1 x2) ∧ x0 + x1 + x2 = k ∧ Below w.heap.size w wr ∧ At wr w.heap.size 77 #[.int .i64 (x0 : Int), .int .i64 (x1 : Int), .int .i64 (x2 : Int)] ∧ Hid (RefW wr g s p))
  case atStart => exact ⟨0, 0, 0, 0, Nat.zero_le _, rfl, Lib.hid ⟨rfl, ⟨rfl, rfl, rfl⟩⟩, rfl, (by repeat (first | with_reducible assumption | with_reducible exact Below.refl _ _ | with_reducible refine below_al ?_ _ | with_reducible refine below_drew ?_ | with_reducible refine below_drewN ?_ _ | with_reducible refine below_set ?_ (by dsimp only; omega) _)), At.new' rfl, Lib.hid (hs0.out.bel (below_al (Below.refl _ _) _))⟩
  case round =>
    clear z1
    obtain ⟨k, x0, x1, x2, hk, rfl, hr, hsum, HB, kz, hs⟩ := hrel
    have z1 : wr.cell? ⟨g, 1, none⟩ = some (.slice aw n cw) := by
      have := hs.out.own.c 1
      rw [hvw.out] at this
      exact this
    have Lz := kz.lt
    have q0 := kz.f 0
    have q1 := kz.f 1
    have q2 := kz.f 2
    have Lg' : g < wr.heap.size := hs.out.own.lt
    obtain ⟨kz0, kz1, kz2⟩ := kz.three
    by_cases hlt : k < n
    · have hka : Hid (k < s.at_.length) := Lib.hid (by rw [hn.out]; exact hlt)
      obtain ⟨b2, off2, rfl, f0, hb2⟩ := ((show Row wr _ 1 encN (.slice aw n cw) s.at_ from hvw.out ▸ hs.out.wher).at encN_len).one (f := fun n : Nat => Value.int .i64 (n : Int)) k hka.out
      have hy2 := hle.out _ (List.getElem_mem hka.out)
      obtain ⟨y, hy⟩ : ∃ y, s.at_[k]'hka.out = y := ⟨_, rfl⟩
      rw [hy] at f0 hy2
      replace hy := Lib.hid hy
      have hy3 : y = 0 ∨ y = 1 ∨ y = 2 := by omega
      clear hy2
      rcases hy3 with rfl | rfl | rfl
      · have w0 : IntKind.i64.wrap ((x0 : Int) + 1) = (x0 : Int) + 1 := IntWalk.i64_in _ (by omega)
        go_upto_region 5 with fail
        go_region
        go_wp2_with fail
        generalize hWW : World.setCell _ _ _ = WW
        have kz' : At WW w.heap.size 77 #[.int .i64 ((x0 : Int) + 1), .int .i64 ((x1 : Int)), .int .i64 ((x2 : Int))] := by rw [← hWW]; exact At.put (i := 0) kz _
        have HB' : Below w.heap.size w WW := by rw [← hWW]; exact below_set HB (Nat.le_refl _) _
        clear hWW HB kz q0 q1 q2
        go_wp2_with fail
        go_roundg (n - (k + 1))
        case measure => have := hr.out.1; omega
        case rel => exact ⟨k + 1, (x0 + 1), x1, x2, by omega, by go_num, Lib.hid ⟨rfl, by have := hr.out.2.step hka.out; rw [hy.out] at this; simpa using this⟩, by omega, (below_drew HB'), At.drw (by simpa using kz'), Lib.hid (hs0.out.bel (below_drew HB'))⟩
      · have w0 : IntKind.i64.wrap ((x1 : Int) + 1) = (x1 : Int) + 1 := IntWalk.i64_in _ (by omega)
        go_upto_region 5 with fail
        go_region
        go_wp2_with fail
        generalize hWW : World.setCell _ _ _ = WW
        have kz' : At WW w.heap.size 77 #[.int .i64 ((x0 : Int)), .int .i64 ((x1 : Int) + 1), .int .i64 ((x2 : Int))] := by rw [← hWW]; exact At.put (i := 1) kz _
        have HB' : Below w.heap.size w WW := by rw [← hWW]; exact below_set HB (Nat.le_refl _) _
        clear hWW HB kz q0 q1 q2
        go_wp2_with fail
        go_roundg (n - (k + 1))
        case measure => have := hr.out.1; omega
        case rel => exact ⟨k + 1, x0, (x1 + 1), x2, by omega, by go_num, Lib.hid ⟨rfl, by have := hr.out.2.step hka.out; rw [hy.out] at this; simpa using this⟩, by omega, (below_drew HB'), At.drw (by simpa using kz'), Lib.hid (hs0.out.bel (below_drew HB'))⟩
      · have w0 : IntKind.i64.wrap ((x2 : Int) + 1) = (x2 : Int) + 1 := IntWalk.i64_in _ (by omega)
        go_upto_region 5 with fail
        go_region
        go_wp2_with fail
        generalize hWW : World.setCell _ _ _ = WW
        have kz' : At WW w.heap.size 77 #[.int .i64 ((x0 : Int)), .int .i64 ((x1 : Int)), .int .i64 ((x2 : Int) + 1)] := by rw [← hWW]; exact At.put (i := 2) kz _
        have HB' : Below w.heap.size w WW := by rw [← hWW]; exact below_set HB (Nat.le_refl _) _
        clear hWW HB kz q0 q1 q2
        go_wp2_with fail
        go_roundg (n - (k + 1))
        case measure => have := hr.out.1; omega
        case rel => exact ⟨k + 1, x0, x1, (x2 + 1), by omega, by go_num, Lib.hid ⟨rfl, by have := hr.out.2.step hka.out; rw [hy.out] at this; simpa using this⟩, by omega, (below_drew HB'), At.drw (by simpa using kz'), Lib.hid (hs0.out.bel (below_drew HB'))⟩
    · have hE : Hid (x0 = R0 ∧ x1 = R1 ∧ x2 = R2) := Lib.hid (by
        have h0 := hr.out.2
        rw [List.take_of_length_le (by have := hn.out; omega)] at h0
        exact ⟨h0.c0.symm.trans hR.out.c0, h0.c1.symm.trans hR.out.c1, h0.c2.symm.trans hR.out.c2⟩)
      have K0 := cell_regrown kz0
      have K1 := cell_regrown kz1
      have K2 := cell_regrown kz2
      go_upto_region 6 with fail
      refine wp_region_quiet_below (by kernel_rfl) (by kernel_rfl) ?_
      repeat (go_big_quiet_step (fail))
      refine wpQuiet_nil ?_
      intro v hb'
      have hb := below_of_regrown hb'
      replace HB := below_then HB hb
      clear hb' hb
      go_wp2_with fail
      exact bodyPost_ret (v := .tuple #[.int .i64 (x0 : Int), .int .i64 (x1 : Int), .int .i64 (x2 : Int)]) (by simp [results, Tryz.results29, go_sem]) rfl ⟨by rw [← hE.out.1, ← hE.out.2.1, ← hE.out.2.2], HB⟩

set_option maxRecDepth 100000 in
set_option maxHeartbeats 1000000 in
theorem reffind_any (s : St) (hok : s.ok) (name : ByteArray) (g : Nat) (p : RV) (w : World) (hs : RefW w g s p) :
    Calls Tryz.prog 52 #[.pointer (some ⟨g, 0, none⟩), .string name] w fun e w' => e = .returned (.int .i64 (ixI s.open_ name)) ∧ w = w' := by
  obtain ⟨R, hR⟩ : ∃ R, ixI s.open_ name = R := ⟨_, rfl⟩
  rw [hR]
  replace hR := Lib.hid hR
  obtain ⟨ao, cap, hvt, hl, hc, hrow, -⟩ := hs.opn.view encS_len
  obtain ⟨n, hn⟩ : ∃ n, s.open_.length = n := ⟨_, rfl⟩
  have hn1 : n ≤ 1000 := by have := hok.openN; have := hok.keptN; omega
  rw [hn] at hvt hl
  have z3 : w.cell? ⟨g, 3, none⟩ = some (.slice ao n cap) := by
    have := hs.own.c 3
    rw [hvt] at this
    exact this
  replace hn := Lib.hid hn
  replace hrow := Lib.hid hrow
  clear hs hvt hok
  go_enter Tryz.func52, Tryz.ntmps52
  go_wp2_with fail
  go_loopg [5] n (fun g1 i wr => ∃ k : Nat, k ≤ n ∧ i = .int .i64 (k : Int) ∧ Hid (g1 = n - k ∧ ∀ (j : Nat) (hj : j < s.open_.length), j < k → s.open_[j] ≠ name) ∧ w = wr)
  case atStart => exact ⟨0, Nat.zero_le _, rfl, Lib.hid ⟨rfl, fun j _ h => absurd h (Nat.not_lt_zero _)⟩, rfl⟩
  case round =>
    obtain ⟨k, hk, rfl, hr, rfl⟩ := hrel
    by_cases hlt : k < n
    · have hkl : Hid (k < s.open_.length) := Lib.hid (by rw [hn.out]; exact hlt)
      obtain ⟨b, off, rfl, d0, hb⟩ := hrow.out.one (f := fun s => .string s) k hkl.out
      obtain ⟨x, hx⟩ : ∃ x, s.open_[k]'hkl.out = x := ⟨_, rfl⟩
      rw [hx] at d0
      replace hx := Lib.hid hx
      by_cases he : x = name
      · have hE : Hid (R = (k : Int)) := Lib.hid (by
          have := ix_here hkl.out (hx.out.trans he) hr.out.2
          rw [← hR.out]
          unfold ixI
          rw [this, if_pos hkl.out])
        have es := str_eq he
        clear he
        go_wp2_with fail
        go_ret
        exact ⟨by rw [hE.out]; rfl, rfl⟩
      · have es := str_ne he
        replace he := Lib.hid he
        go_wp2_with fail
        go_roundg (n - (k + 1))
        case measure => have := hr.out.1; omega
        case rel =>
          refine ⟨k + 1, by omega, by go_num, Lib.hid ⟨rfl, ?_⟩, rfl⟩
          intro j hj hjk
          by_cases hj2 : j = k
          · subst hj2
            rw [hx.out]
            exact he.out
          · exact hr.out.2 j hj (by omega)
    · have hE : Hid (R = -1) := Lib.hid (by
        have h0 := hn.out
        have := ix_none (ts := s.open_) (s := name) (fun j hj => hr.out.2 j hj (by omega))
        rw [← hR.out]
        unfold ixI
        rw [this, if_neg (by omega)])
      go_wp2_with fail
      go_ret
      exact ⟨by rw [hE.out]; rfl, rfl⟩

end Go.Proofs.YtpocmijfkjjboaaGreatDoor
