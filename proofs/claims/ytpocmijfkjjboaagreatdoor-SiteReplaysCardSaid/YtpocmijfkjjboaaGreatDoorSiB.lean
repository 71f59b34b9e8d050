/- site: rows of bundles, entries and names in memory; the reference's Find and Short. -/
import Derived.Test.YtpocmijfkjjboaaGreatDoorEnB
set_option linter.unusedVariables false
namespace Go.Proofs.YtpocmijfkjjboaaGreatDoor
open Go.ChangeShapes Go.WideShapes Go.ChangeAt Go.RowKit

set_option maxRecDepth 100000 in
set_option maxHeartbeats 1000000 in
theorem find36_any (l : List Bun) (tag : ByteArray) (ao : Option Addr) (cap : Nat) (hl : l.length ≤ cap) (hn : l.length ≤ 1000000) (B : Nat) (w : World) (ha : Hid (RowAt encB 4 B w ao l)) :
    Calls Tryz.prog 50 #[.slice ao l.length cap, .string tag] w fun e w' => e = .returned (.int .i64 (ixI (l.map (·.tag)) tag)) ∧ w = w' := by
  obtain ⟨R, hR⟩ : ∃ R, ixI (l.map (·.tag)) tag = R := ⟨_, rfl⟩
  rw [hR]
  replace hR := Lib.hid hR
  obtain ⟨n, hn'⟩ : ∃ n, l.length = n := ⟨_, rfl⟩
  rw [hn'] at hl hn ⊢
  replace hn' := Lib.hid hn'
  go_enter Tryz.func50, Tryz.ntmps50
  go_wp2_with fail
  go_loopg [5] n (fun g i wr => ∃ k : Nat, k ≤ n ∧ i = .int .i64 (k : Int) ∧ Hid (g = n - k ∧ ∀ (j : Nat) (hj : j < (l.map (·.tag)).length), j < k → (l.map (·.tag))[j] ≠ tag) ∧ w = wr)
  case atStart => exact ⟨0, Nat.zero_le _, rfl, Lib.hid ⟨rfl, fun j _ h => absurd h (Nat.not_lt_zero _)⟩, rfl⟩
  case round =>
    obtain ⟨k, hk, rfl, hr, rfl⟩ := hrel
    by_cases hlt : k < n
    · have hkl : Hid (k < l.length) := Lib.hid (by rw [hn'.out]; exact hlt)
      have hkt : Hid (k < (l.map (·.tag)).length) := Lib.hid (by rw [List.length_map]; exact hkl.out)
      obtain ⟨b, off, rfl, c0, c1, c2, c3, hb⟩ := ha.out.bun k hkl.out
      have hx : Hid ((l.map (·.tag))[k]'hkt.out = (l[k]'hkl.out).tag) := Lib.hid (List.getElem_map ..)
      generalize (l[k]'hkl.out).tag = x at c0 hx
      clear c1 c2 c3 hb
      by_cases he : x = tag
      · have hE : Hid (R = (k : Int)) := Lib.hid (by
          have := ix_here hkt.out (hx.out.trans he) hr.out.2
          rw [← hR.out]
          unfold ixI
          rw [this, if_pos hkt.out])
        have es := str_eq he
        clear he
        go_wp2_with fail
        go_ret
        exact ⟨by rw [hE.out]; rfl, rfl⟩
      · have es := str_ne he
        replace he := Lib.hid he
        go_wp2_with fail
        go_roundg (n - (k + 1))
        case measure => have := hr.out.1; omega
        case rel =>
          refine ⟨k + 1, by omega, by go_num, Lib.hid ⟨rfl, ?_⟩, rfl⟩
          intro j hj hjk
          by_cases hj2 : j = k
          · subst hj2
            rw [hx.out]
            exact he.out
          · exact hr.out.2 j hj (by omega)
    · have hE : Hid (R = -1) := Lib.hid (by
        have h0 := hn'.out
        have := ix_none (ts := l.map (·.tag)) (s := tag) (fun j hj => hr.out.2 j hj (by rw [List.length_map] at hj; omega))
        rw [← hR.out]
        unfold ixI
        rw [this, if_neg (by omega)])
      go_wp2_with fail
      go_ret
      exact ⟨by rw [hE.out]; rfl, rfl⟩

end Go.Proofs.YtpocmijfkjjboaaGreatDoor
