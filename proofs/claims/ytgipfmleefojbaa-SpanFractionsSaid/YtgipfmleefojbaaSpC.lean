/- Contracts of the reference's Add, Sub, Least, Greatest, Hull, Meet. -/
import Derived.Test.YtgipfmleefojbaaSpB
import Derived.Deep.RegionHeld3
import Derived.Deep.DrawnRows
set_option linter.unusedVariables false
namespace Go.Proofs.Ytgipfmleefojbaa
open Go.ChangeShapes Go.WideShapes Go.ChangeAt Go.RowKit

theorem refadd_any (al ah bl bh : Int) (h1 : validB al ah = true) (h2 : validB bl bh = true) (w : World) :
    Calls Try.prog 38 #[sp al ah, sp bl bh] w fun e w' => e = .returned (spv (addS al ah bl bh)) ∧ Below w.heap.size w w' := by
  rw [show addS al ah bl bh = fitS (al + bl) (ah + bh) from by simp [addS, h1, h2]]
  rw [validB_iff] at h1 h2
  obtain ⟨h10, h11, h12⟩ := h1
  obtain ⟨h20, h21, h22⟩ := h2
  go_enter Try.func38, Try.ntmps38
  go_wp2_with (first | (go_at_call 46; refine (reffits_any _ _ (by omega) _).mono ?_; rintro e w1 ⟨rfl, hb⟩; have oc := oldc hb; have of := oldf hb))
  exact bodyPost_ret (v := spv (fitS (al + bl) (ah + bh))) (by simp [results, Try.results38, go_sem, oc]) rfl ⟨rfl, (by repeat (first | with_reducible exact Below.refl _ _ | with_reducible refine below_al ?_ _ | with_reducible refine below_drew ?_ | with_reducible refine below_drewN ?_ _ | with_reducible refine below_set ?_ (by dsimp only; omega) _ | with_reducible refine below_then ?_ hb))⟩

theorem refsub_any (al ah bl bh : Int) (h1 : validB al ah = true) (h2 : validB bl bh = true) (w : World) :
    Calls Try.prog 39 #[sp al ah, sp bl bh] w fun e w' => e = .returned (spv (subS al ah bl bh)) ∧ Below w.heap.size w w' := by
  rw [show subS al ah bl bh = fitS (al - bh) (ah - bl) from by simp [subS, h1, h2]]
  rw [validB_iff] at h1 h2
  obtain ⟨h10, h11, h12⟩ := h1
  obtain ⟨h20, h21, h22⟩ := h2
  go_enter Try.func39, Try.ntmps39
  go_wp2_with (first | (go_at_call 46; refine (reffits_any _ _ (by omega) _).mono ?_; rintro e w1 ⟨rfl, hb⟩; have oc := oldc hb; have of := oldf hb))
  exact bodyPost_ret (v := spv (fitS (al - bh) (ah - bl))) (by simp [results, Try.results39, go_sem, oc]) rfl ⟨rfl, (by repeat (first | with_reducible exact Below.refl _ _ | with_reducible refine below_al ?_ _ | with_reducible refine below_drew ?_ | with_reducible refine below_drewN ?_ _ | with_reducible refine below_set ?_ (by dsimp only; omega) _ | with_reducible refine below_then ?_ hb))⟩

/-- Of integers in a slice over a block of its own. -/
theorem least_any (x : Int) (l : List Int) (b : Nat) (n : Nat) (hn : n = l.length + 1) (hlen : l.length < 100) (w : World)
    (hat : At w b 3 (((x :: l).map (Value.int .i64)).toArray)) :
    Calls Try.prog 47 #[.slice (some ⟨b, 0, none⟩) n n] w fun e w' => e = .returned (.int .i64 (l.foldl minI x)) ∧ w = w' := by
  have hc : ∀ k (hk : k < (x :: l).length), w.cell? ⟨b, k, none⟩ = some (.int .i64 ((x :: l)[k])) := fun k hk => by
    rw [hat.c k, List.getElem?_toArray, List.getElem?_map, List.getElem?_eq_getElem hk]
    rfl
  have h0 : w.cell? ⟨b, 0, none⟩ = some (.int .i64 x) := hc 0 (by simp)
  have hN : n ≤ 100 := by omega
  have hN1 : 1 ≤ n := by omega
  have HN := Lib.hid hn
  have HC := Lib.hid hc
  clear hn hc hat
  go_enter Try.func47, Try.ntmps47
  go_wp2
  go_loop [3, 4] (fun m i => ∃ k : Nat, 1 ≤ k ∧ k ≤ n ∧ i = .int .i64 (k : Int) ∧ m = .int .i64 ((l.take (k - 1)).foldl minI x)) (fun _ i => n - (intOf i).toNat)
  case atStart => exact ⟨1, by omega, by omega, rfl, rfl⟩
  case round =>
    obtain ⟨k, hk1, hk, rfl, rfl⟩ := hrel
    by_cases hlt : k < n
    · have hkl : k - 1 < l.length := by have := HN.out; omega
      have hck : w.cell? ⟨b, k, none⟩ = some (.int .i64 (l[k - 1])) := by
        have := HC.out k (by have := HN.out; simp; omega)
        rw [this]
        congr 2
        rw [List.getElem_cons, dif_neg (by omega)]
      have hstep : Hid ((l.take (k + 1 - 1)).foldl minI x = minI ((l.take (k - 1)).foldl minI x) l[k - 1]) := by
        have e : k + 1 - 1 = (k - 1) + 1 := by omega
        rw [e, List.take_succ_eq_append_getElem hkl, List.foldl_append]
        exact rfl
      generalize (l.take (k - 1)).foldl minI x = m at *
      generalize l[k - 1] = y at *
      by_cases hy : y < m
      · go_wp2
        go_round
        case rel => exact ⟨k + 1, by omega, by omega, by go_num, by rw [hstep.out]; unfold minI; rw [if_pos hy]⟩
        case measure => simp [intOf]; omega
      · go_wp2
        go_round
        case rel => exact ⟨k + 1, by omega, by omega, by go_num, by rw [hstep.out]; unfold minI; rw [if_neg hy]⟩
        case measure => simp [intOf]; omega
    · go_wp2
      go_ret
      exact ⟨ret_int (by rw [List.take_of_length_le (by have := HN.out; omega)]), rfl⟩

/-- Of integers in a slice over a block of its own. -/
theorem greatest_any (x : Int) (l : List Int) (b : Nat) (n : Nat) (hn : n = l.length + 1) (hlen : l.length < 100) (w : World)
    (hat : At w b 3 (((x :: l).map (Value.int .i64)).toArray)) :
    Calls Try.prog 48 #[.slice (some ⟨b, 0, none⟩) n n] w fun e w' => e = .returned (.int .i64 (l.foldl maxI x)) ∧ w = w' := by
  have hc : ∀ k (hk : k < (x :: l).length), w.cell? ⟨b, k, none⟩ = some (.int .i64 ((x :: l)[k])) := fun k hk => by
    rw [hat.c k, List.getElem?_toArray, List.getElem?_map, List.getElem?_eq_getElem hk]
    rfl
  have h0 : w.cell? ⟨b, 0, none⟩ = some (.int .i64 x) := hc 0 (by simp)
  have hN : n ≤ 100 := by omega
  have hN1 : 1 ≤ n := by omega
  have HN := Lib.hid hn
  have HC := Lib.hid hc
  clear hn hc hat
  go_enter Try.func48, Try.ntmps48
  go_wp2
  go_loop [3, 4] (fun m i => ∃ k : Nat, 1 ≤ k ∧ k ≤ n ∧ i = .int .i64 (k : Int) ∧ m = .int .i64 ((l.take (k - 1)).foldl maxI x)) (fun _ i => n - (intOf i).toNat)
  case atStart => exact ⟨1, by omega, by omega, rfl, rfl⟩
  case round =>
    obtain ⟨k, hk1, hk, rfl, rfl⟩ := hrel
    by_cases hlt : k < n
    · have hkl : k - 1 < l.length := by have := HN.out; omega
      have hck : w.cell? ⟨b, k, none⟩ = some (.int .i64 (l[k - 1])) := by
        have := HC.out k (by have := HN.out; simp; omega)
        rw [this]
        congr 2
        rw [List.getElem_cons, dif_neg (by omega)]
      have hstep : Hid ((l.take (k + 1 - 1)).foldl maxI x = maxI ((l.take (k - 1)).foldl maxI x) l[k - 1]) := by
        have e : k + 1 - 1 = (k - 1) + 1 := by omega
        rw [e, List.take_succ_eq_append_getElem hkl, List.foldl_append]
        exact rfl
      generalize (l.take (k - 1)).foldl maxI x = m at *
      generalize l[k - 1] = y at *
      by_cases hy : m < y
      · go_wp2
        go_round
        case rel => exact ⟨k + 1, by omega, by omega, by go_num, by rw [hstep.out]; unfold maxI; rw [if_pos hy]⟩
        case measure => simp [intOf]; omega
      · go_wp2
        go_round
        case rel => exact ⟨k + 1, by omega, by omega, by go_num, by rw [hstep.out]; unfold maxI; rw [if_neg hy]⟩
        case measure => simp [intOf]; omega
    · go_wp2
      go_ret
      exact ⟨ret_int (by rw [List.take_of_length_le (by have := HN.out; omega)]), rfl⟩

#print axioms greatest_any

end Go.Proofs.Ytgipfmleefojbaa
