/- The reference's Least and Greatest over any slice of integers. -/
import Derived.Test.YtgipfmleefojbaaSpD
set_option linter.unusedVariables false
namespace Go.Proofs.Ytgipfmleefojbaa
open Go.ChangeShapes Go.WideShapes Go.ChangeAt Go.RowKit

theorem least_row (x : Int) (l : List Int) (b : Nat) (n cap : Nat) (hn : n = l.length + 1) (hlen : l.length < 100) (w : World)
    (hc : ∀ k (hk : k < (x :: l).length), w.cell? ⟨b, k, none⟩ = some (.int .i64 ((x :: l)[k]))) :
    Calls Try.prog 47 #[.slice (some ⟨b, 0, none⟩) n cap] w fun e w' => e = .returned (.int .i64 (l.foldl minI x)) ∧ w = w' := by
  have h0 : w.cell? ⟨b, 0, none⟩ = some (.int .i64 x) := hc 0 (by simp)
  have hN : n ≤ 100 := by omega
  have hN1 : 1 ≤ n := by omega
  have HN := Lib.hid hn
  have HC := Lib.hid hc
  clear hn hc
  go_enter Try.func47, Try.ntmps47
  go_wp2
  go_loop [3, 4] (fun m i => ∃ k : Nat, 1 ≤ k ∧ k ≤ n ∧ i = .int .i64 (k : Int) ∧ m = .int .i64 ((l.take (k - 1)).foldl minI x)) (fun _ i => n - (intOf i).toNat)
  case atStart => exact ⟨1, by omega, by omega, rfl, rfl⟩
  case round =>
    obtain ⟨k, hk1, hk, rfl, rfl⟩ := hrel
    by_cases hlt : k < n
    · have hkl : k - 1 < l.length := by have := HN.out; omega
      have hck : w.cell? ⟨b, k, none⟩ = some (.int .i64 (l[k - 1])) := by
        have := HC.out k (by have := HN.out; simp; omega)
        rw [this]
        congr 2
        rw [List.getElem_cons, dif_neg (by omega)]
      have hstep : Hid ((l.take (k + 1 - 1)).foldl minI x = minI ((l.take (k - 1)).foldl minI x) l[k - 1]) := by
        have e : k + 1 - 1 = (k - 1) + 1 := by omega
        rw [e, List.take_succ_eq_append_getElem hkl, List.foldl_append]
        exact rfl
      generalize (l.take (k - 1)).foldl minI x = m at *
      generalize l[k - 1] = y at *
      by_cases hy : y < m
      · go_wp2
        go_round
        case rel => exact ⟨k + 1, by omega, by omega, by go_num, by rw [hstep.out]; unfold minI; rw [if_pos hy]⟩
        case measure => simp [intOf]; omega
      · go_wp2
        go_round
        case rel => exact ⟨k + 1, by omega, by omega, by go_num, by rw [hstep.out]; unfold minI; rw [if_neg hy]⟩
        case measure => simp [intOf]; omega
    · go_wp2
      go_ret
      exact ⟨ret_int (by rw [List.take_of_length_le (by have := HN.out; omega)]), rfl⟩

theorem greatest_row (x : Int) (l : List Int) (b : Nat) (n cap : Nat) (hn : n = l.length + 1) (hlen : l.length < 100) (w : World)
    (hc : ∀ k (hk : k < (x :: l).length), w.cell? ⟨b, k, none⟩ = some (.int .i64 ((x :: l)[k]))) :
    Calls Try.prog 48 #[.slice (some ⟨b, 0, none⟩) n cap] w fun e w' => e = .returned (.int .i64 (l.foldl maxI x)) ∧ w = w' := by
  have h0 : w.cell? ⟨b, 0, none⟩ = some (.int .i64 x) := hc 0 (by simp)
  have hN : n ≤ 100 := by omega
  have hN1 : 1 ≤ n := by omega
  have HN := Lib.hid hn
  have HC := Lib.hid hc
  clear hn hc
  go_enter Try.func48, Try.ntmps48
  go_wp2
  go_loop [3, 4] (fun m i => ∃ k : Nat, 1 ≤ k ∧ k ≤ n ∧ i = .int .i64 (k : Int) ∧ m = .int .i64 ((l.take (k - 1)).foldl maxI x)) (fun _ i => n - (intOf i).toNat)
  case atStart => exact ⟨1, by omega, by omega, rfl, rfl⟩
  case round =>
    obtain ⟨k, hk1, hk, rfl, rfl⟩ := hrel
    by_cases hlt : k < n
    · have hkl : k - 1 < l.length := by have := HN.out; omega
      have hck : w.cell? ⟨b, k, none⟩ = some (.int .i64 (l[k - 1])) := by
        have := HC.out k (by have := HN.out; simp; omega)
        rw [this]
        congr 2
        rw [List.getElem_cons, dif_neg (by omega)]
      have hstep : Hid ((l.take (k + 1 - 1)).foldl maxI x = maxI ((l.take (k - 1)).foldl maxI x) l[k - 1]) := by
        have e : k + 1 - 1 = (k - 1) + 1 := by omega
        rw [e, List.take_succ_eq_append_getElem hkl, List.foldl_append]
        exact rfl
      generalize (l.take (k - 1)).foldl maxI x = m at *
      generalize l[k - 1] = y at *
      by_cases hy : m < y
      · go_wp2
        go_round
        case rel => exact ⟨k + 1, by omega, by omega, by go_num, by rw [hstep.out]; unfold maxI; rw [if_pos hy]⟩
        case measure => simp [intOf]; omega
      · go_wp2
        go_round
        case rel => exact ⟨k + 1, by omega, by omega, by go_num, by rw [hstep.out]; unfold maxI; rw [if_neg hy]⟩
        case measure => simp [intOf]; omega
    · go_wp2
      go_ret
      exact ⟨ret_int (by rw [List.take_of_length_le (by have := HN.out; omega)]), rfl⟩

#print axioms greatest_row

end Go.Proofs.Ytgipfmleefojbaa
