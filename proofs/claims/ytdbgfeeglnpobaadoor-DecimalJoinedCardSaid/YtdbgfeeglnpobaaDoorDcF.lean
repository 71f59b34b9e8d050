/- decimal.Format. -/
import Derived.Test.YtdbgfeeglnpobaaDoorMFmt
import Derived.Test.YtdbgfeeglnpobaaDoorTab
import Derived.Test.YtdbgfeeglnpobaaDoorMTok2
import Derived.Deep.RegionWith
set_option linter.unusedVariables false
namespace Go.Proofs.YtdbgfeeglnpobaaDoor
open Go.ChangeShapes Go.WideShapes Go.ChangeAt Go.RowKit

theorem by_append (a b : ByteArray) : by_ (a ++ b) = by_ a ++ by_ b := by
  show (a ++ b).data.toList = a.data.toList ++ b.data.toList
  simp
theorem by_inj {a b : ByteArray} (h : by_ a = by_ b) : a = b := by rw [← by_mk a, ← by_mk b, h]
theorem mk_by (l : List UInt8) : by_ (⟨l.toArray⟩ : ByteArray) = l := by simp
theorem by_dot (c : UInt8) : by_ (⟨#[c]⟩ : ByteArray) = [c] := rfl
theorem fmt_str (sg p : ByteArray) (j : Nat) : sg ++ p.extract 0 j ++ ⟨#[46]⟩ ++ p.extract j p.size = ⟨(by_ sg ++ ((by_ p).take j ++ 46 :: (by_ p).drop j)).toArray⟩ := by
  apply by_inj
  rw [by_append, by_append, by_append, by_take, by_drop, mk_by, by_dot, List.append_assoc, List.append_assoc]
  rfl
/-- What Format answers, for a right number of digits. -/
abbrev fmv (s : ByteArray) : Value := .tuple #[.string s, .int .i64 0]

set_option maxRecDepth 100000 in
set_option maxHeartbeats 1000000 in
theorem fmt_posA (n : Int) (d : ByteArray) (hn : ¬ n < 0) (hw : IntKind.i64.wrap (-n) = -n) (bd : d.size ≤ 30)
    (HP : Hid (∀ w, Calls Tryd.prog 32 #[.int .i64 0] w fun e w' => e = .returned (.bool true) ∧ w = w'))
    (HN : Hid (∀ w, Calls Tryd.prog 33 #[.int .i64 n] w fun e w' => e = .returned (.bool true) ∧ w = w'))
    (HI : Hid (∀ w, Tab w → Calls Tryd.prog 34 #[.int .i64 n] w fun e w' => e = .returned (.string d) ∧ Below w.heap.size w w')) (w : World) (ht : Hid (Tab w)) :
    Calls Tryd.prog 12 #[.int .i64 n, .int .i64 0] w fun e w' => e = .returned (fmv (⟨#[]⟩ ++ d)) ∧ Below w.heap.size w w' := by
  go_enter Tryd.func12, Tryd.ntmps12
  go_wp2_with fail
  refine (HP.out _).mono ?_
  rintro e w1 ⟨rfl, rfl⟩
  go_wp2_with fail
  refine (HN.out _).mono ?_
  rintro e w1 ⟨rfl, rfl⟩
  go_wp2_with fail
  refine (HI.out _ ht.out).mono ?_
  rintro e w1 ⟨rfl, HB⟩
  go_wp2_with fail
  go_ret2
  exact ⟨rfl, (by repeat (first | with_reducible assumption | with_reducible exact Below.refl _ _ | with_reducible refine below_al ?_ _ | with_reducible refine below_drew ?_ | with_reducible refine below_drewN ?_ _ | with_reducible refine below_set ?_ (by dsimp only; omega) _))⟩

set_option maxRecDepth 100000 in
set_option maxHeartbeats 1000000 in
theorem fmt_posB (n : Int) (d : ByteArray) (k : Nat) (k1 : 1 ≤ k) (k9 : k ≤ 9) (r p : ByteArray) (j : Nat) (br : r.size + d.size = k + 1) (hdk : d.size ≤ k) (hp : r ++ d = p) (hj : Hid (p.size - k = j)) (hn : ¬ n < 0) (hw : IntKind.i64.wrap (-n) = -n) (bd : d.size ≤ 30)
    (HP : Hid (∀ w, Calls Tryd.prog 32 #[.int .i64 (k : Int)] w fun e w' => e = .returned (.bool true) ∧ w = w'))
    (HN : Hid (∀ w, Calls Tryd.prog 33 #[.int .i64 n] w fun e w' => e = .returned (.bool true) ∧ w = w'))
    (HI : Hid (∀ w, Tab w → Calls Tryd.prog 34 #[.int .i64 n] w fun e w' => e = .returned (.string d) ∧ Below w.heap.size w w'))
    (HR : Hid (∀ w, Calls Tryd.prog 20 #[.string ⟨#[48]⟩, .int .i64 ((k : Int) + 1 - (d.size : Int))] w fun e w' => e = .returned (.string r) ∧ Below w.heap.size w w')) (w : World) (ht : Hid (Tab w)) :
    Calls Tryd.prog 12 #[.int .i64 n, .int .i64 (k : Int)] w fun e w' => e = .returned (fmv (⟨#[]⟩ ++ p.extract 0 j ++ ⟨#[46]⟩ ++ p.extract j p.size)) ∧ Below w.heap.size w w' := by
  go_enter Tryd.func12, Tryd.ntmps12
  go_wp2_with fail
  refine (HP.out _).mono ?_
  rintro e w1 ⟨rfl, rfl⟩
  go_wp2_with fail
  refine (HN.out _).mono ?_
  rintro e w1 ⟨rfl, rfl⟩
  go_wp2_with fail
  refine (HI.out _ ht.out).mono ?_
  rintro e w1 ⟨rfl, HB⟩
  go_wp2_with fail
  refine (HR.out _).mono ?_
  rintro e w2 ⟨rfl, hb⟩
  replace HB := below_then HB hb
  clear hb
  have bp : p.size ≤ 60 ∧ k ≤ p.size := by rw [← hp]; simp; omega
  have ej : IntKind.i64.wrap ((p.size : Int) - (k : Int)) = (j : Int) := by have := hj.out; rw [wrap_in (by omega)]; omega
  have hjs : j ≤ p.size := by have := hj.out; omega
  go_upto_region 14 with fail
  go_region
  go_wp2_with fail
  go_ret2
  exact ⟨rfl, (by repeat (first | with_reducible assumption | with_reducible exact Below.refl _ _ | with_reducible refine below_al ?_ _ | with_reducible refine below_drew ?_ | with_reducible refine below_drewN ?_ _ | with_reducible refine below_set ?_ (by dsimp only; omega) _))⟩

set_option maxRecDepth 100000 in
set_option maxHeartbeats 1000000 in
theorem fmt_posC (n : Int) (d : ByteArray) (k : Nat) (k1 : 1 ≤ k) (k9 : k ≤ 9) (j : Nat) (hdk : ¬ d.size ≤ k) (hj : Hid (d.size - k = j)) (hn : ¬ n < 0) (hw : IntKind.i64.wrap (-n) = -n) (bd : d.size ≤ 30)
    (HP : Hid (∀ w, Calls Tryd.prog 32 #[.int .i64 (k : Int)] w fun e w' => e = .returned (.bool true) ∧ w = w'))
    (HN : Hid (∀ w, Calls Tryd.prog 33 #[.int .i64 n] w fun e w' => e = .returned (.bool true) ∧ w = w'))
    (HI : Hid (∀ w, Tab w → Calls Tryd.prog 34 #[.int .i64 n] w fun e w' => e = .returned (.string d) ∧ Below w.heap.size w w')) (w : World) (ht : Hid (Tab w)) :
    Calls Tryd.prog 12 #[.int .i64 n, .int .i64 (k : Int)] w fun e w' => e = .returned (fmv (⟨#[]⟩ ++ d.extract 0 j ++ ⟨#[46]⟩ ++ d.extract j d.size)) ∧ Below w.heap.size w w' := by
  go_enter Tryd.func12, Tryd.ntmps12
  go_wp2_with fail
  refine (HP.out _).mono ?_
  rintro e w1 ⟨rfl, rfl⟩
  go_wp2_with fail
  refine (HN.out _).mono ?_
  rintro e w1 ⟨rfl, rfl⟩
  go_wp2_with fail
  refine (HI.out _ ht.out).mono ?_
  rintro e w1 ⟨rfl, HB⟩
  have bp : d.size ≤ 60 ∧ k ≤ d.size := by omega
  have ej : IntKind.i64.wrap ((d.size : Int) - (k : Int)) = (j : Int) := by have := hj.out; rw [wrap_in (by omega)]; omega
  have hjs : j ≤ d.size := by have := hj.out; omega
  go_upto_region 14 with fail
  go_region
  go_wp2_with fail
  go_ret2
  exact ⟨rfl, (by repeat (first | with_reducible assumption | with_reducible exact Below.refl _ _ | with_reducible refine below_al ?_ _ | with_reducible refine below_drew ?_ | with_reducible refine below_drewN ?_ _ | with_reducible refine below_set ?_ (by dsimp only; omega) _))⟩

set_option maxRecDepth 100000 in
set_option maxHeartbeats 1000000 in
theorem fmt_negA (n : Int) (d : ByteArray) (hn : n < 0) (hw : IntKind.i64.wrap (-n) = -n) (bd : d.size ≤ 30)
    (HP : Hid (∀ w, Calls Tryd.prog 32 #[.int .i64 0] w fun e w' => e = .returned (.bool true) ∧ w = w'))
    (HN : Hid (∀ w, Calls Tryd.prog 33 #[.int .i64 n] w fun e w' => e = .returned (.bool true) ∧ w = w'))
    (HI : Hid (∀ w, Tab w → Calls Tryd.prog 34 #[.int .i64 (-n)] w fun e w' => e = .returned (.string d) ∧ Below w.heap.size w w')) (w : World) (ht : Hid (Tab w)) :
    Calls Tryd.prog 12 #[.int .i64 n, .int .i64 0] w fun e w' => e = .returned (fmv (⟨#[45]⟩ ++ d)) ∧ Below w.heap.size w w' := by
  go_enter Tryd.func12, Tryd.ntmps12
  go_wp2_with fail
  refine (HP.out _).mono ?_
  rintro e w1 ⟨rfl, rfl⟩
  go_wp2_with fail
  refine (HN.out _).mono ?_
  rintro e w1 ⟨rfl, rfl⟩
  go_wp2_with fail
  refine (HI.out _ ht.out).mono ?_
  rintro e w1 ⟨rfl, HB⟩
  go_wp2_with fail
  go_ret2
  exact ⟨rfl, (by repeat (first | with_reducible assumption | with_reducible exact Below.refl _ _ | with_reducible refine below_al ?_ _ | with_reducible refine below_drew ?_ | with_reducible refine below_drewN ?_ _ | with_reducible refine below_set ?_ (by dsimp only; omega) _))⟩

set_option maxRecDepth 100000 in
set_option maxHeartbeats 1000000 in
theorem fmt_negB (n : Int) (d : ByteArray) (k : Nat) (k1 : 1 ≤ k) (k9 : k ≤ 9) (r p : ByteArray) (j : Nat) (br : r.size + d.size = k + 1) (hdk : d.size ≤ k) (hp : r ++ d = p) (hj : Hid (p.size - k = j)) (hn : n < 0) (hw : IntKind.i64.wrap (-n) = -n) (bd : d.size ≤ 30)
    (HP : Hid (∀ w, Calls Tryd.prog 32 #[.int .i64 (k : Int)] w fun e w' => e = .returned (.bool true) ∧ w = w'))
    (HN : Hid (∀ w, Calls Tryd.prog 33 #[.int .i64 n] w fun e w' => e = .returned (.bool true) ∧ w = w'))
    (HI : Hid (∀ w, Tab w → Calls Tryd.prog 34 #[.int .i64 (-n)] w fun e w' => e = .returned (.string d) ∧ Below w.heap.size w w'))
    (HR : Hid (∀ w, Calls Tryd.prog 20 #[.string ⟨#[48]⟩, .int .i64 ((k : Int) + 1 - (d.size : Int))] w fun e w' => e = .returned (.string r) ∧ Below w.heap.size w w')) (w : World) (ht : Hid (Tab w)) :
    Calls Tryd.prog 12 #[.int .i64 n, .int .i64 (k : Int)] w fun e w' => e = .returned (fmv (⟨#[45]⟩ ++ p.extract 0 j ++ ⟨#[46]⟩ ++ p.extract j p.size)) ∧ Below w.heap.size w w' := by
  go_enter Tryd.func12, Tryd.ntmps12
  go_wp2_with fail
  refine (HP.out _).mono ?_
  rintro e w1 ⟨rfl, rfl⟩
  go_wp2_with fail
  refine (HN.out _).mono ?_
  rintro e w1 ⟨rfl, rfl⟩
  go_wp2_with fail
  refine (HI.out _ ht.out).mono ?_
  rintro e w1 ⟨rfl, HB⟩
  go_wp2_with fail
  refine (HR.out _).mono ?_
  rintro e w2 ⟨rfl, hb⟩
  replace HB := below_then HB hb
  clear hb
  have bp : p.size ≤ 60 ∧ k ≤ p.size := by rw [← hp]; simp; omega
  have ej : IntKind.i64.wrap ((p.size : Int) - (k : Int)) = (j : Int) := by have := hj.out; rw [wrap_in (by omega)]; omega
  have hjs : j ≤ p.size := by have := hj.out; omega
  go_upto_region 14 with fail
  go_region
  go_wp2_with fail
  go_ret2
  exact ⟨rfl, (by repeat (first | with_reducible assumption | with_reducible exact Below.refl _ _ | with_reducible refine below_al ?_ _ | with_reducible refine below_drew ?_ | with_reducible refine below_drewN ?_ _ | with_reducible refine below_set ?_ (by dsimp only; omega) _))⟩

set_option maxRecDepth 100000 in
set_option maxHeartbeats 1000000 in
theorem fmt_negC (n : Int) (d : ByteArray) (k : Nat) (k1 : 1 ≤ k) (k9 : k ≤ 9) (j : Nat) (hdk : ¬ d.size ≤ k) (hj : Hid (d.size - k = j)) (hn : n < 0) (hw : IntKind.i64.wrap (-n) = -n) (bd : d.size ≤ 30)
    (HP : Hid (∀ w, Calls Tryd.prog 32 #[.int .i64 (k : Int)] w fun e w' => e = .returned (.bool true) ∧ w = w'))
    (HN : Hid (∀ w, Calls Tryd.prog 33 #[.int .i64 n] w fun e w' => e = .returned (.bool true) ∧ w = w'))
    (HI : Hid (∀ w, Tab w → Calls Tryd.prog 34 #[.int .i64 (-n)] w fun e w' => e = .returned (.string d) ∧ Below w.heap.size w w')) (w : World) (ht : Hid (Tab w)) :
    Calls Tryd.prog 12 #[.int .i64 n, .int .i64 (k : Int)] w fun e w' => e = .returned (fmv (⟨#[45]⟩ ++ d.extract 0 j ++ ⟨#[46]⟩ ++ d.extract j d.size)) ∧ Below w.heap.size w w' := by
  go_enter Tryd.func12, Tryd.ntmps12
  go_wp2_with fail
  refine (HP.out _).mono ?_
  rintro e w1 ⟨rfl, rfl⟩
  go_wp2_with fail
  refine (HN.out _).mono ?_
  rintro e w1 ⟨rfl, rfl⟩
  go_wp2_with fail
  refine (HI.out _ ht.out).mono ?_
  rintro e w1 ⟨rfl, HB⟩
  have bp : d.size ≤ 60 ∧ k ≤ d.size := by omega
  have ej : IntKind.i64.wrap ((d.size : Int) - (k : Int)) = (j : Int) := by have := hj.out; rw [wrap_in (by omega)]; omega
  have hjs : j ≤ d.size := by have := hj.out; omega
  go_upto_region 14 with fail
  go_region
  go_wp2_with fail
  go_ret2
  exact ⟨rfl, (by repeat (first | with_reducible assumption | with_reducible exact Below.refl _ _ | with_reducible refine below_al ?_ _ | with_reducible refine below_drew ?_ | with_reducible refine below_drewN ?_ _ | with_reducible refine below_set ?_ (by dsimp only; omega) _))⟩

end Go.Proofs.YtdbgfeeglnpobaaDoor
