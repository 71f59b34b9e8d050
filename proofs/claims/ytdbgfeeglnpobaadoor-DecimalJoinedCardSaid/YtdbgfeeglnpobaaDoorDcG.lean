/- The reference's digits. -/
import Derived.Test.YtdbgfeeglnpobaaDoorDcF
import Derived.Deep.LoopGhost
import Derived.Laws.BytesString
import Derived.Laws.IdiomStrings
set_option linter.unusedVariables false
namespace Go.Proofs.YtdbgfeeglnpobaaDoor
open Go.ChangeShapes Go.WideShapes Go.ChangeAt Go.RowKit

theorem psize (b : UInt8) (out : ByteArray) : ((⟨#[b]⟩ : ByteArray) ++ out).size = out.size + 1 := by
  rw [ByteArray.size_append, Nat.add_comm]
  rfl

set_option maxRecDepth 100000 in
set_option maxHeartbeats 1000000 in
theorem digits_any (n m : Nat) (hn : n ≤ 1152921504606846976) (hm : m ≤ 20) (R : List UInt8) (hR : Hid (R = digD n m ∧ R.length ≤ 50)) (w : World) :
    Calls Tryd.prog 35 #[.int .i64 (n : Int), .int .i64 (m : Int)] w fun e w' => e = .returned (.string ⟨R.toArray⟩) ∧ Below w.heap.size w w' := by
  go_enter Tryd.func35, Tryd.ntmps35
  go_wp2_with fail
  go_loopg [0, 5] (n + m) (fun g v0 v5 wr => ∃ (k : Nat) (out : ByteArray), v0 = .int .i64 (k : Int) ∧ v5 = .string out ∧ k ≤ n ∧ Hid (g = k + (m - out.size) ∧ digD k (m - out.size) ++ by_ out = R) ∧ Below w.heap.size w wr)
  case atStart => exact ⟨n, ByteArray.empty, rfl, rfl, Nat.le_refl _, Lib.hid ⟨rfl, by rw [hR.out.1]; exact List.append_nil _⟩, Below.refl _ _⟩
  case round =>
    obtain ⟨k, out, rfl, rfl, hk, hr, HB⟩ := hrel
    have bo : out.size ≤ 50 := by
      have e := congrArg List.length hr.out.2
      rw [List.length_append] at e
      have : (by_ out).length = out.size := rfl
      have := hR.out.2
      omega
    have e1 : ((k : Int)).tmod 10 = ((k % 10 : Nat) : Int) := by rw [Int.tmod_eq_emod_of_nonneg (by omega)]; omega
    have e2 : ((k : Int)).tdiv 10 = ((k / 10 : Nat) : Int) := by rw [Int.tdiv_eq_ediv_of_nonneg (by omega)]; omega
    obtain ⟨q, hq⟩ : ∃ q, k / 10 = q := ⟨_, rfl⟩
    obtain ⟨r, hr'⟩ : ∃ r, k % 10 = r := ⟨_, rfl⟩
    rw [hr'] at e1
    rw [hq] at e2
    have hr9 : r < 10 := by omega
    obtain ⟨b, hb⟩ : ∃ b : UInt8, b = UInt8.ofNat (48 + r) := ⟨_, rfl⟩
    have hbn : (b.toNat : Int) = 48 + (r : Int) := by rw [hb]; simp; omega
    have hconv : (convert 42 9 (.slice (some ⟨wr.heap.size, 0, none⟩) 1 1)).run Tryd.prog (wr.alloc (.cells #[.int .u8 (48 + (r : Int))] 5)) = .ok (.string ⟨#[b]⟩) (wr.alloc (.cells #[.int .u8 (48 + (r : Int))] 5)) :=
      run_convert_bytes_back _ _ _ 5 ⟨wr.heap.size, 0, none⟩ 1 [b] Tryd.underlying42 Tryd.underlying5 Tryd.underlying9 (fun j hj => by
        have : j = 0 := by simpa using hj
        subst this
        simp [Addr.add, hbn])
    have hS : (k : Nat) > 0 ∨ 0 < m - out.size → digD q (m - (out.size + 1)) ++ by_ (⟨#[b]⟩ ++ out) = R := fun h => by
      rw [← hr.out.2, digD_step (n := k) (m := m - out.size) (by omega), hq, hr', by_append, by_dot, ← hb, List.append_assoc]
      rfl
    replace hS := Lib.hid hS
    have e3 : IntKind.i64.wrap (q : Int) = (q : Int) := wrap_in (by omega)
    have hq' := Lib.hid hq
    replace hb := Lib.hid hb
    replace hbn := Lib.hid hbn
    replace hr' := Lib.hid hr'
    clear hq
    by_cases c1 : 0 < k
    · go_wp2_with fail
      go_roundg (q + (m - (out.size + 1)))
      case measure => have := hr.out.1; have := hq'.out; omega
      case rel => exact ⟨q, ⟨#[b]⟩ ++ out, rfl, rfl, by have := hq'.out; omega, Lib.hid ⟨by rw [psize], by rw [← hS.out (.inl c1), psize]⟩, (by repeat (first | with_reducible assumption | with_reducible exact Below.refl _ _ | with_reducible refine below_al ?_ _ | with_reducible refine below_drew ?_ | with_reducible refine below_drewN ?_ _ | with_reducible refine below_set ?_ (by dsimp only; omega) _))⟩
    · by_cases c2 : out.size < m
      · go_wp2_with fail
        go_roundg (q + (m - (out.size + 1)))
        case measure => have := hr.out.1; have := hq'.out; omega
        case rel => exact ⟨q, ⟨#[b]⟩ ++ out, rfl, rfl, by have := hq'.out; omega, Lib.hid ⟨by rw [psize], by rw [← hS.out (.inr (by omega)), psize]⟩, (by repeat (first | with_reducible assumption | with_reducible exact Below.refl _ _ | with_reducible refine below_al ?_ _ | with_reducible refine below_drew ?_ | with_reducible refine below_drewN ?_ _ | with_reducible refine below_set ?_ (by dsimp only; omega) _))⟩
      · have hE : Hid (by_ out = R) := Lib.hid (by have := hr.out.2; rw [show k = 0 from by omega, show m - out.size = 0 from by omega] at this; exact this)
        go_wp2_with fail
        go_ret
        exact ⟨by rw [← hE.out, by_mk]; rfl, HB⟩

end Go.Proofs.YtdbgfeeglnpobaaDoor
