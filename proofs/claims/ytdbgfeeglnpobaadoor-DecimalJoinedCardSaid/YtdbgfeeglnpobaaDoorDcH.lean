/- Format and the reference's Format by their values. -/
import Derived.Test.YtdbgfeeglnpobaaDoorDcG
set_option linter.unusedVariables false
namespace Go.Proofs.YtdbgfeeglnpobaaDoor
open Go.ChangeShapes Go.WideShapes Go.ChangeAt Go.RowKit

set_option maxRecDepth 100000 in
set_option maxHeartbeats 1000000 in
theorem refm_posA (n : Int) (p : ByteArray) (hn : ¬ n < 0) (hw : IntKind.i64.wrap (-n) = -n) (hw0 : IntKind.i64.wrap (0 - n) = -n) (bp : p.size ≤ 60)
    (HD : Hid (∀ w, Calls Tryd.prog 35 #[.int .i64 n, .int .i64 1] w fun e w' => e = .returned (.string p) ∧ Below w.heap.size w w')) (w : World) :
    Calls Tryd.prog 14 #[.int .i64 n, .int .i64 0] w fun e w' => e = .returned (.string (⟨#[]⟩ ++ p)) ∧ Below w.heap.size w w' := by
  go_enter Tryd.func14, Tryd.ntmps14
  go_wp2_with fail
  refine (HD.out _).mono ?_
  rintro e w1 ⟨rfl, HB⟩
  go_wp2_with fail
  go_ret
  exact ⟨rfl, (by repeat (first | with_reducible assumption | with_reducible exact Below.refl _ _ | with_reducible refine below_al ?_ _ | with_reducible refine below_drew ?_ | with_reducible refine below_drewN ?_ _ | with_reducible refine below_set ?_ (by dsimp only; omega) _))⟩

set_option maxRecDepth 100000 in
set_option maxHeartbeats 1000000 in
theorem refm_posB (n : Int) (p : ByteArray) (k : Nat) (k1 : 1 ≤ k) (k9 : k ≤ 9) (j : Nat) (hkp : k ≤ p.size) (hj : Hid (p.size - k = j)) (hn : ¬ n < 0) (hw : IntKind.i64.wrap (-n) = -n) (hw0 : IntKind.i64.wrap (0 - n) = -n) (bp : p.size ≤ 60)
    (HD : Hid (∀ w, Calls Tryd.prog 35 #[.int .i64 n, .int .i64 ((k : Int) + 1)] w fun e w' => e = .returned (.string p) ∧ Below w.heap.size w w')) (w : World) :
    Calls Tryd.prog 14 #[.int .i64 n, .int .i64 (k : Int)] w fun e w' => e = .returned (.string (⟨#[]⟩ ++ p.extract 0 j ++ ⟨#[46]⟩ ++ p.extract j p.size)) ∧ Below w.heap.size w w' := by
  go_enter Tryd.func14, Tryd.ntmps14
  go_wp2_with fail
  refine (HD.out _).mono ?_
  rintro e w1 ⟨rfl, HB⟩
  have ej : IntKind.i64.wrap ((p.size : Int) - (k : Int)) = (j : Int) := by have := hj.out; rw [wrap_in (by omega)]; omega
  have hjs : j ≤ p.size := by have := hj.out; omega
  have zk : ((k : Int) == 0) = false := by simp; omega
  go_upto_region 8 with fail
  go_region
  go_wp2_with fail
  go_ret
  exact ⟨rfl, (by repeat (first | with_reducible assumption | with_reducible exact Below.refl _ _ | with_reducible refine below_al ?_ _ | with_reducible refine below_drew ?_ | with_reducible refine below_drewN ?_ _ | with_reducible refine below_set ?_ (by dsimp only; omega) _))⟩

set_option maxRecDepth 100000 in
set_option maxHeartbeats 1000000 in
theorem refm_negA (n : Int) (p : ByteArray) (hn : n < 0) (hw : IntKind.i64.wrap (-n) = -n) (hw0 : IntKind.i64.wrap (0 - n) = -n) (bp : p.size ≤ 60)
    (HD : Hid (∀ w, Calls Tryd.prog 35 #[.int .i64 (-n), .int .i64 1] w fun e w' => e = .returned (.string p) ∧ Below w.heap.size w w')) (w : World) :
    Calls Tryd.prog 14 #[.int .i64 n, .int .i64 0] w fun e w' => e = .returned (.string (⟨#[45]⟩ ++ p)) ∧ Below w.heap.size w w' := by
  go_enter Tryd.func14, Tryd.ntmps14
  go_wp2_with fail
  refine (HD.out _).mono ?_
  rintro e w1 ⟨rfl, HB⟩
  go_wp2_with fail
  go_ret
  exact ⟨rfl, (by repeat (first | with_reducible assumption | with_reducible exact Below.refl _ _ | with_reducible refine below_al ?_ _ | with_reducible refine below_drew ?_ | with_reducible refine below_drewN ?_ _ | with_reducible refine below_set ?_ (by dsimp only; omega) _))⟩

set_option maxRecDepth 100000 in
set_option maxHeartbeats 1000000 in
theorem refm_negB (n : Int) (p : ByteArray) (k : Nat) (k1 : 1 ≤ k) (k9 : k ≤ 9) (j : Nat) (hkp : k ≤ p.size) (hj : Hid (p.size - k = j)) (hn : n < 0) (hw : IntKind.i64.wrap (-n) = -n) (hw0 : IntKind.i64.wrap (0 - n) = -n) (bp : p.size ≤ 60)
    (HD : Hid (∀ w, Calls Tryd.prog 35 #[.int .i64 (-n), .int .i64 ((k : Int) + 1)] w fun e w' => e = .returned (.string p) ∧ Below w.heap.size w w')) (w : World) :
    Calls Tryd.prog 14 #[.int .i64 n, .int .i64 (k : Int)] w fun e w' => e = .returned (.string (⟨#[45]⟩ ++ p.extract 0 j ++ ⟨#[46]⟩ ++ p.extract j p.size)) ∧ Below w.heap.size w w' := by
  go_enter Tryd.func14, Tryd.ntmps14
  go_wp2_with fail
  refine (HD.out _).mono ?_
  rintro e w1 ⟨rfl, HB⟩
  have ej : IntKind.i64.wrap ((p.size : Int) - (k : Int)) = (j : Int) := by have := hj.out; rw [wrap_in (by omega)]; omega
  have hjs : j ≤ p.size := by have := hj.out; omega
  have zk : ((k : Int) == 0) = false := by simp; omega
  go_upto_region 8 with fail
  go_region
  go_wp2_with fail
  go_ret
  exact ⟨rfl, (by repeat (first | with_reducible assumption | with_reducible exact Below.refl _ _ | with_reducible refine below_al ?_ _ | with_reducible refine below_drew ?_ | with_reducible refine below_drewN ?_ _ | with_reducible refine below_set ?_ (by dsimp only; omega) _))⟩

theorem places_any (k : Int) (w : World) : Calls Tryd.prog 32 #[.int .i64 k] w fun e w' => e = .returned (.bool (decide (0 ≤ k) && decide (k ≤ 9))) ∧ w = w' := by
  by_cases h1 : 0 ≤ k <;> by_cases h2 : k ≤ 9 <;> (go_enter Tryd.func32, Tryd.ntmps32; go_wp2; all_goals (go_ret; exact ⟨ret_bool (by simp [*]), rfl⟩))
set_option maxRecDepth 100000 in
theorem fmt_range (n k : Int) (hk : (decide (0 ≤ k) && decide (k ≤ 9)) = false) (w : World) :
    Calls Tryd.prog 12 #[.int .i64 n, .int .i64 k] w fun e w' => e = .returned (.tuple #[.string ⟨#[]⟩, .int .i64 2]) ∧ Below w.heap.size w w' := by
  have HP := Lib.hid (fun w => by have := places_any k w; rw [hk] at this; exact this)
  clear hk
  go_enter Tryd.func12, Tryd.ntmps12
  go_wp2_with fail
  refine (HP.out _).mono ?_
  rintro e w1 ⟨rfl, rfl⟩
  go_wp2_with fail
  go_ret2
  exact ⟨rfl, Below.refl _ _⟩
set_option maxRecDepth 100000 in
theorem fmt_big (n k : Int) (hk : (decide (0 ≤ k) && decide (k ≤ 9)) = true) (hn : numB n = false) (w : World) :
    Calls Tryd.prog 12 #[.int .i64 n, .int .i64 k] w fun e w' => e = .returned (.tuple #[.string ⟨#[]⟩, .int .i64 5]) ∧ Below w.heap.size w w' := by
  have HP := Lib.hid (fun w => by have := places_any k w; rw [hk] at this; exact this)
  have HN := Lib.hid (fun w => by have := number_any n w; rw [hn] at this; exact this)
  clear hk hn
  go_enter Tryd.func12, Tryd.ntmps12
  go_wp2_with fail
  refine (HP.out _).mono ?_
  rintro e w1 ⟨rfl, rfl⟩
  go_wp2_with fail
  refine (HN.out _).mono ?_
  rintro e w1 ⟨rfl, rfl⟩
  go_wp2_with fail
  go_ret2
  exact ⟨rfl, Below.refl _ _⟩
theorem mk_size (l : List UInt8) : (⟨l.toArray⟩ : ByteArray).size = l.length := by simp [ByteArray.size]
theorem rep_zero (m : Nat) : Lib.repeatL [48] m = List.replicate m (48 : UInt8) := by
  induction m with
  | zero => rfl
  | succ m ih => rw [Lib.repeatL, ih, List.replicate_succ]; rfl
theorem fmt_zero (n : Int) : fmtL n 0 = (if n < 0 then [45] else []) ++ Lib.decDigits n.natAbs := by simp [fmtL]
theorem fmt_some (n : Int) {k : Nat} (h : 1 ≤ k) : fmtL n k = (if n < 0 then [45] else []) ++ ((padD n.natAbs (k + 1)).take ((padD n.natAbs (k + 1)).length - k) ++ 46 :: (padD n.natAbs (k + 1)).drop ((padD n.natAbs (k + 1)).length - k)) := by
  unfold fmtL
  rw [if_neg (show ¬ k = 0 by omega)]
/-- Format, by its value. -/
theorem fmt_ok (n : Int) (k : Nat) (k9 : k ≤ 9) (hn : numB n = true) (w : World) (ht : Tab w) :
    Calls Tryd.prog 12 #[.int .i64 n, .int .i64 (k : Int)] w fun e w' => e = .returned (fmv ⟨(fmtL n k).toArray⟩) ∧ Below w.heap.size w w' := by
  have hn' := numB_iff.1 hn
  have HP := Lib.hid (fun w => by have := places_any (k : Int) w; rw [show (decide (0 ≤ (k : Int)) && decide ((k : Int) ≤ 9)) = true from by simp; omega] at this; exact this)
  have HN := Lib.hid (fun w => by have := number_any n w; rw [hn] at this; exact this)
  have HI := Lib.hid (fun w ht => itoa_tab (n.natAbs : Int) (by omega) w ht)
  rw [Lib.itoa_nonneg] at HI
  have bd : (⟨(Lib.decDigits n.natAbs).toArray⟩ : ByteArray).size ≤ 30 := by rw [mk_size]; have := dec_len n.natAbs (by omega); omega
  have hw : IntKind.i64.wrap (-n) = -n := wrap_in (by omega)
  have dl := dec_len_pos n.natAbs
  have fin : ∀ (sg p : ByteArray) (j : Nat), 1 ≤ k → by_ sg = (if n < 0 then [45] else []) → by_ p = padD n.natAbs (k + 1) → p.size - k = j → (sg ++ p.extract 0 j ++ ⟨#[46]⟩ ++ p.extract j p.size : ByteArray) = ⟨(fmtL n k).toArray⟩ := fun sg p j h1 h2 h3 h4 => by
    rw [fmt_str, h2, h3, fmt_some n h1, ← h3, ← h4]
    rfl
  by_cases h0 : k = 0
  · subst h0
    rw [fmt_zero]
    by_cases c : n < 0
    · rw [show (n.natAbs : Int) = -n from by omega] at HI
      have := fmt_negA n _ c hw bd HP HN HI w (Lib.hid ht)
      rw [if_pos c]
      rwa [show ((⟨#[45]⟩ : ByteArray) ++ ⟨(Lib.decDigits n.natAbs).toArray⟩) = ⟨([45] ++ Lib.decDigits n.natAbs).toArray⟩ from by_inj (by rw [by_append, mk_by, mk_by])] at this
    · rw [show (n.natAbs : Int) = n from by omega] at HI
      have := fmt_posA n _ c hw bd HP HN HI w (Lib.hid ht)
      rw [if_neg c]
      rwa [show ((⟨#[]⟩ : ByteArray) ++ ⟨(Lib.decDigits n.natAbs).toArray⟩) = ⟨([] ++ Lib.decDigits n.natAbs).toArray⟩ from by_inj (by rw [by_append, mk_by, mk_by])] at this
  · by_cases hd : (⟨(Lib.decDigits n.natAbs).toArray⟩ : ByteArray).size ≤ k
    · have HR : Hid (∀ w, Calls Tryd.prog 20 #[.string ⟨#[48]⟩, .int .i64 ((k : Int) + 1 - ((⟨(Lib.decDigits n.natAbs).toArray⟩ : ByteArray).size : Int))] w fun e w' => e = .returned (.string ⟨(List.replicate (k + 1 - (Lib.decDigits n.natAbs).length) 48).toArray⟩) ∧ Below w.heap.size w w') := Lib.hid (fun w => by
        rw [mk_size] at hd
        have e : ((k : Int) + 1 - ((⟨(Lib.decDigits n.natAbs).toArray⟩ : ByteArray).size : Int)) = ((k + 1 - (Lib.decDigits n.natAbs).length : Nat) : Int) := by rw [mk_size]; omega
        rw [e, ← rep_zero]
        exact Tryd.strings_Repeat ⟨#[48]⟩ _ w (by omega) (by show 1 * _ ≤ _; omega))
      have hsz : (⟨(List.replicate (k + 1 - (Lib.decDigits n.natAbs).length) (48 : UInt8)).toArray⟩ : ByteArray).size + (⟨(Lib.decDigits n.natAbs).toArray⟩ : ByteArray).size = k + 1 := by
        rw [mk_size] at hd
        rw [mk_size, mk_size, List.length_replicate]
        omega
      have hpp : by_ ((⟨(List.replicate (k + 1 - (Lib.decDigits n.natAbs).length) (48 : UInt8)).toArray⟩ : ByteArray) ++ ⟨(Lib.decDigits n.natAbs).toArray⟩) = padD n.natAbs (k + 1) := by
        rw [by_append, mk_by, mk_by]
        rfl
      by_cases c : n < 0
      · rw [show (n.natAbs : Int) = -n from by omega] at HI
        have := fmt_negB n _ k (by omega) k9 _ _ _ hsz hd rfl (Lib.hid rfl) c hw bd HP HN HI HR w (Lib.hid ht)
        rwa [fin _ _ _ (by omega) (by rw [if_pos c]) hpp rfl] at this
      · rw [show (n.natAbs : Int) = n from by omega] at HI
        have := fmt_posB n _ k (by omega) k9 _ _ _ hsz hd rfl (Lib.hid rfl) c hw bd HP HN HI HR w (Lib.hid ht)
        rwa [fin _ _ _ (by omega) (by rw [if_neg c]) hpp rfl] at this
    · have hpp : by_ (⟨(Lib.decDigits n.natAbs).toArray⟩ : ByteArray) = padD n.natAbs (k + 1) := by
        rw [mk_size] at hd
        rw [mk_by]
        unfold padD
        rw [show k + 1 - (Lib.decDigits n.natAbs).length = 0 from by omega]
        rfl
      by_cases c : n < 0
      · rw [show (n.natAbs : Int) = -n from by omega] at HI
        have := fmt_negC n _ k (by omega) k9 _ hd (Lib.hid rfl) c hw bd HP HN HI w (Lib.hid ht)
        rwa [fin _ _ _ (by omega) (by rw [if_pos c]) hpp rfl] at this
      · rw [show (n.natAbs : Int) = n from by omega] at HI
        have := fmt_posC n _ k (by omega) k9 _ hd (Lib.hid rfl) c hw bd HP HN HI w (Lib.hid ht)
        rwa [fin _ _ _ (by omega) (by rw [if_neg c]) hpp rfl] at this
/-- The reference's Format. -/
theorem refformat_ok (n : Int) (k : Nat) (k9 : k ≤ 9) (hn : numB n = true) (w : World) :
    Calls Tryd.prog 14 #[.int .i64 n, .int .i64 (k : Int)] w fun e w' => e = .returned (.string ⟨(fmtL n k).toArray⟩) ∧ Below w.heap.size w w' := by
  have hn' := numB_iff.1 hn
  have hw : IntKind.i64.wrap (-n) = -n := wrap_in (by omega)
  have hw0 : IntKind.i64.wrap (0 - n) = -n := by rw [show 0 - n = -n from by omega]; exact hw
  have dl := dec_len n.natAbs (by omega)
  have pl := pad_len n.natAbs (k + 1)
  have HD := Lib.hid (fun w => digits_any n.natAbs (k + 1) (by omega) (by omega) (padD n.natAbs (k + 1)) (Lib.hid ⟨(digD_pad (by omega)).symm, by omega⟩) w)
  have bp : (⟨(padD n.natAbs (k + 1)).toArray⟩ : ByteArray).size ≤ 60 := by rw [mk_size]; omega
  rw [show ((k + 1 : Nat) : Int) = (k : Int) + 1 from by omega] at HD
  by_cases h0 : k = 0
  · subst h0
    rw [pad_one] at HD bp
    rw [fmt_zero]
    by_cases c : n < 0
    · rw [show (n.natAbs : Int) = -n from by omega] at HD
      have := refm_negA n _ c hw hw0 bp HD w
      rw [if_pos c]
      rwa [show ((⟨#[45]⟩ : ByteArray) ++ ⟨(Lib.decDigits n.natAbs).toArray⟩) = ⟨([45] ++ Lib.decDigits n.natAbs).toArray⟩ from by_inj (by rw [by_append, mk_by, mk_by])] at this
    · rw [show (n.natAbs : Int) = n from by omega] at HD
      have := refm_posA n _ c hw hw0 bp HD w
      rw [if_neg c]
      rwa [show ((⟨#[]⟩ : ByteArray) ++ ⟨(Lib.decDigits n.natAbs).toArray⟩) = ⟨([] ++ Lib.decDigits n.natAbs).toArray⟩ from by_inj (by rw [by_append, mk_by, mk_by])] at this
  · have fin : ∀ (sg : ByteArray), by_ sg = (if n < 0 then [45] else []) → (sg ++ (⟨(padD n.natAbs (k + 1)).toArray⟩ : ByteArray).extract 0 ((⟨(padD n.natAbs (k + 1)).toArray⟩ : ByteArray).size - k) ++ ⟨#[46]⟩ ++ (⟨(padD n.natAbs (k + 1)).toArray⟩ : ByteArray).extract ((⟨(padD n.natAbs (k + 1)).toArray⟩ : ByteArray).size - k) (⟨(padD n.natAbs (k + 1)).toArray⟩ : ByteArray).size : ByteArray) = ⟨(fmtL n k).toArray⟩ := fun sg h2 => by
      rw [fmt_str, h2, mk_by, fmt_some n (by omega), mk_size]
    by_cases c : n < 0
    · rw [show (n.natAbs : Int) = -n from by omega] at HD
      have := refm_negB n _ k (by omega) k9 _ (by rw [mk_size]; omega) (Lib.hid rfl) c hw hw0 bp HD w
      rwa [fin _ (by rw [if_pos c])] at this
    · rw [show (n.natAbs : Int) = n from by omega] at HD
      have := refm_posB n _ k (by omega) k9 _ (by rw [mk_size]; omega) (Lib.hid rfl) c hw hw0 bp HD w
      rwa [fin _ (by rw [if_neg c])] at this

end Go.Proofs.YtdbgfeeglnpobaaDoor
