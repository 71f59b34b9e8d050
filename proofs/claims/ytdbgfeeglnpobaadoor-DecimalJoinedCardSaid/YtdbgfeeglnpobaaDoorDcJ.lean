/- DecimalJoined's walk: it returns true. -/
import Derived.Test.YtdbgfeeglnpobaaDoorMJoi
import Derived.Test.YtdbgfeeglnpobaaDoorDL4
import Derived.Lib.Join
import Derived.Maps.AppendAt
set_option linter.unusedVariables false
namespace Go.Proofs.YtdbgfeeglnpobaaDoor
open Go.ChangeShapes Go.WideShapes Go.ChangeAt Go.RowKit

open Go.Lib (join)
theorem join_T : ∀ (ts : List Tk), join (ts.map txT) [32] = joinT ts
  | [] => rfl
  | [t] => Lib.join_one _ _
  | t :: u :: r => by
    have ih := join_T (u :: r)
    rw [List.map_cons, Lib.join_cons] at ih
    rw [List.map_cons, Lib.join_cons, List.map_cons]
    show _ = txT t ++ 32 :: joinT (u :: r)
    rw [← ih]
    unfold Lib.joinTail
    simp
set_option maxRecDepth 100000 in
theorem kt_same (k : Int) (t : ByteArray) (a b c d : Int) (w : World) : Calls Tryd.prog 31 #[.agg #[.int .i64 k, .string t, .int .i64 a, .int .i64 b], .agg #[.int .i64 k, .string t, .int .i64 c, .int .i64 d]] w fun e w' => e = .returned (.bool true) ∧ Below w.heap.size w w' := by
  have e1 : (k == k) = true := by simp
  have e2 : (t.toList == t.toList) = true := by simp
  go_enter Tryd.func31, Tryd.ntmps31
  go_wp2_with fail
  go_ret
  exact ⟨rfl, (by repeat (first | with_reducible exact Below.refl _ _ | with_reducible refine below_al ?_ _ | with_reducible refine below_drew ?_ | with_reducible refine below_drewN ?_ _))⟩
set_option maxRecDepth 100000 in
set_option maxHeartbeats 1000000 in
theorem ktEq_any (l m : List Tk) (hmap : l.map (fun t => (t.kind, t.text)) = m.map (fun t => (t.kind, t.text))) (a b : Option Addr) (ca cb : Nat) (hl : l.length ≤ 1000000) (h1 : l.length ≤ ca) (h2 : m.length ≤ cb) (w : World) (ta : Hid (TokAt w a l ∧ ∀ g, a = some ⟨g, 0, none⟩ → g < w.heap.size)) (tb : Hid (TokAt w b m ∧ ∀ g, b = some ⟨g, 0, none⟩ → g < w.heap.size)) :
    Calls Tryd.prog 30 #[.slice a l.length ca, .slice b m.length cb, .func (.func 31) #[] #[]] w fun e w' => e = .returned (.bool true) ∧ Below w.heap.size w w' := by
  have hlen : m.length = l.length := by have := congrArg List.length hmap; simpa using this.symm
  obtain ⟨n, hn⟩ : ∃ n, l.length = n := ⟨_, rfl⟩
  rw [hlen, hn]
  rw [hlen, hn] at h2
  rw [hn] at hl h1
  replace hn := Lib.hid hn
  replace hlen := Lib.hid hlen
  replace hmap := Lib.hid hmap
  go_enter Tryd.func30, Tryd.ntmps30
  go_wp2_with fail
  go_loopg [17] n (fun g i wr => ∃ k : Nat, k ≤ n ∧ i = .int .i64 (k : Int) ∧ Hid (g = n - k) ∧ Below w.heap.size w wr)
  case atStart => exact ⟨0, Nat.zero_le _, rfl, Lib.hid rfl, Below.refl _ _⟩
  case round =>
    obtain ⟨k, hk, rfl, hg, HB⟩ := hrel
    by_cases hlt : k < n
    · have hkl : Hid (k < l.length) := Lib.hid (by rw [hn.out]; exact hlt)
      have hkm : Hid (k < m.length) := Lib.hid (by rw [hlen.out, hn.out]; exact hlt)
      have hkt : Hid ((l[k]'hkl.out).kind = (m[k]'hkm.out).kind ∧ (l[k]'hkl.out).text = (m[k]'hkm.out).text) := Lib.hid (by
        have h1 : (l.map (fun t => (t.kind, t.text)))[k]'(by simpa using hkl.out) = (m.map (fun t => (t.kind, t.text)))[k]'(by simpa using hkm.out) := List.getElem_of_eq hmap.out _
        rw [List.getElem_map, List.getElem_map] at h1
        exact ⟨congrArg Prod.fst h1, congrArg Prod.snd h1⟩)
      obtain ⟨ga, rfl, a0, a1, a2, a3⟩ := (ta.out.1.bel HB ta.out.2) k hkl.out
      obtain ⟨gb, rfl, b0, b1, b2, b3⟩ := (tb.out.1.bel HB tb.out.2) k hkm.out
      have la : ga < wr.heap.size := Nat.lt_of_lt_of_le (ta.out.2 ga rfl) HB.size
      have lb : gb < wr.heap.size := Nat.lt_of_lt_of_le (tb.out.2 gb rfl) HB.size
      rw [← hkt.out.1] at b0
      rw [← hkt.out.2] at b1
      obtain ⟨K, hK⟩ : ∃ K, (l[k]'hkl.out).kind = K := ⟨_, rfl⟩
      obtain ⟨X, hX⟩ : ∃ X : ByteArray, ⟨(l[k]'hkl.out).text.toArray⟩ = X := ⟨_, rfl⟩
      obtain ⟨L1, hL1⟩ : ∃ L, (l[k]'hkl.out).line = L := ⟨_, rfl⟩
      obtain ⟨C1, hC1⟩ : ∃ L, (l[k]'hkl.out).col = L := ⟨_, rfl⟩
      obtain ⟨L2, hL2⟩ : ∃ L, (m[k]'hkm.out).line = L := ⟨_, rfl⟩
      obtain ⟨C2, hC2⟩ : ∃ L, (m[k]'hkm.out).col = L := ⟨_, rfl⟩
      rw [hK] at a0 b0
      rw [hX] at a1 b1
      rw [hL1] at a2
      rw [hC1] at a3
      rw [hL2] at b2
      rw [hC2] at b3
      have HC := Lib.hid (fun u => kt_same K X L1 C1 L2 C2 u)
      clear hK hX hL1 hC1 hL2 hC2 hkt
      go_wp2_with fail
      refine (HC.out _).mono ?_
      rintro e w1 ⟨rfl, hb1⟩
      replace HB := below_then (by repeat (first | with_reducible assumption | with_reducible exact Below.refl _ _ | with_reducible refine below_al ?_ _ | with_reducible refine below_drew ?_ | with_reducible refine below_drewN ?_ _) : Below w.heap.size w _) hb1
      clear hb1 a0 a1 a2 a3 b0 b1 b2 b3 la lb
      go_wp2_with fail
      go_roundg (n - (k + 1))
      case measure => have := hg.out; omega
      case rel => exact ⟨k + 1, by omega, by go_num, Lib.hid rfl, HB⟩
    · have e : k = n := by omega
      subst e
      go_wp2_with fail
      go_ret
      exact ⟨rfl, HB⟩

end Go.Proofs.YtdbgfeeglnpobaaDoor
