/- Parse, Round and Tokens by their values. -/
import Derived.Test.YtdbgfeeglnpobaaDoorDcQ
set_option linter.unusedVariables false
namespace Go.Proofs.YtdbgfeeglnpobaaDoor
open Go.ChangeShapes Go.WideShapes Go.ChangeAt Go.RowKit

theorem cutD_no (l : List UInt8) (h : (cutD l).2.2 = false) : (cutD l).2.1 = [] := by
  unfold cutD at h ⊢
  split
  · rfl
  · rename_i k
    rw [if_neg k] at h
    exact absurd h (by simp)
theorem allD_all {l : List UInt8} (h : allD l = true) : l.all isDig = true := by
  unfold allD at h
  simp only [Bool.and_eq_true] at h
  exact h.2
theorem rep_dig (m : Nat) : (List.replicate m (48 : UInt8)).all isDig = true := by
  rw [List.all_eq_true]
  intro x hx
  rw [(List.mem_replicate.1 hx).2]
  rfl
theorem good_dig {wh pt : List UInt8} {po : Bool} {k : Nat} (hp : po = false → pt = []) (h : badP wh pt po k = false) : pt.length ≤ k ∧ (wh ++ pt ++ List.replicate (k - pt.length) 48).all isDig = true := by
  unfold badP at h
  simp only [Bool.or_eq_false_iff] at h
  have h1 : allD wh = true := by simpa using h.1.1
  have h2 : pt.length ≤ k ∧ pt.all isDig = true := by
    cases po
    · rw [hp rfl]
      exact ⟨Nat.zero_le _, rfl⟩
    · have h3 := h.2
      simp only [Bool.true_and, Bool.or_eq_false_iff, decide_eq_false_iff_not] at h3
      exact ⟨by omega, allD_all (by simpa using h3.1)⟩
  refine ⟨h2.1, ?_⟩
  rw [List.all_append, List.all_append, allD_all h1, h2.2, rep_dig]
  rfl
abbrev pav (R : Int × Int) : Value := .tuple #[.int .i64 R.1, .int .i64 R.2]
theorem parse_any (s : ByteArray) (hs : s.size ≤ 100000) (k : Nat) (k9 : k ≤ 9) (w : World) :
    Calls Tryd.prog 15 #[.string s, .int .i64 (k : Int)] w fun e w' => e = .returned (pav (parS (by_ s) k)) ∧ Below w.heap.size w w' := by
  have HP := Lib.hid (fun w => by have := places_any (k : Int) w; rw [show (decide (0 ≤ (k : Int)) && decide ((k : Int) ≤ 9)) = true from by simp; omega] at this; exact this)
  have HX : Hid (∀ w, Calls Tryd.prog 36 #[.string s, .string ⟨#[45]⟩] w fun e w' => e = .returned (.tuple #[.string ⟨(Lib.trimPrefix (by_ s) [45]).toArray⟩, .bool (Lib.hasPrefix (by_ s) [45])]) ∧ w = w') := Lib.hid fun w => (Tryd.strings_CutPrefix s ⟨#[45]⟩ w).mono fun _ _ ⟨a, b⟩ => ⟨a, b.symm⟩
  have tl := Lib.trimPrefix_le (by_ s) [45]
  have sl : (by_ s).length = s.size := rfl
  have hrs : by_ (⟨(Lib.trimPrefix (by_ s) [45]).toArray⟩ : ByteArray) = Lib.trimPrefix (by_ s) [45] := mk_by _
  have HC := Lib.hid (fun w => cut_any ⟨(Lib.trimPrefix (by_ s) [45]).toArray⟩ (by rw [mk_size]; omega) w)
  rw [hrs] at HC
  have cl := cutD_len (Lib.trimPrefix (by_ s) [45])
  have hno := cutD_no (Lib.trimPrefix (by_ s) [45])
  unfold parS
  generalize hT : Lib.trimPrefix (by_ s) [45] = T at *
  generalize Lib.hasPrefix (by_ s) [45] = neg at *
  rcases hc : cutD T with ⟨wh, pt, po⟩
  rw [hc] at HC cl hno
  dsimp only at cl hno HC ⊢
  have HAw := Lib.hid (fun w => all_any ⟨wh.toArray⟩ (by rw [mk_size]; omega) w)
  have HAp := Lib.hid (fun w => all_any ⟨pt.toArray⟩ (by rw [mk_size]; omega) w)
  have HR : Hid ((⟨pt.toArray⟩ : ByteArray).size ≤ k → ∀ w, Calls Tryd.prog 20 #[.string ⟨#[48]⟩, .int .i64 ((k : Int) - ((⟨pt.toArray⟩ : ByteArray).size : Int))] w fun e w' => e = .returned (.string ⟨(List.replicate (k - pt.length) 48).toArray⟩) ∧ Below w.heap.size w w') := Lib.hid (fun hk w => by
    rw [mk_size] at hk
    rw [mk_size, show (k : Int) - (pt.length : Int) = ((k - pt.length : Nat) : Int) from by omega, ← rep_zero]
    exact Tryd.strings_Repeat ⟨#[48]⟩ _ w (by omega) (by show 1 * _ ≤ _; omega))
  refine parse_core s _ ⟨wh.toArray⟩ ⟨pt.toArray⟩ ⟨(List.replicate (k - pt.length) 48).toArray⟩ _ k neg po (allD (by_ ⟨wh.toArray⟩)) (allD (by_ ⟨pt.toArray⟩)) (badP wh pt po k) k9 (by rw [mk_size]; omega) (by rw [mk_size]; omega) (by rw [mk_size, List.length_replicate]; omega) rfl _ HP HX HC HAw HAp (Lib.hid ?_) (Lib.hid fun hf => ?_) HR (Lib.hid ?_) w
  · rw [← badP_eq, mk_by, mk_by]
  · rw [mk_size, by_append, by_append, mk_by, mk_by, mk_by]
    exact good_dig hno hf
  · rw [by_append, by_append, mk_by, mk_by, mk_by]
set_option maxRecDepth 100000 in
theorem parse_range (s : ByteArray) (k : Int) (hk : (decide (0 ≤ k) && decide (k ≤ 9)) = false) (w : World) :
    Calls Tryd.prog 15 #[.string s, .int .i64 k] w fun e w' => e = .returned (pav (0, 2)) ∧ Below w.heap.size w w' := by
  have HP := Lib.hid (fun w => by have := places_any k w; rw [hk] at this; exact this)
  clear hk
  go_enter Tryd.func15, Tryd.ntmps15
  go_wp2_with fail
  refine (HP.out _).mono ?_
  rintro e w1 ⟨rfl, rfl⟩
  go_wp2_with fail
  go_ret2
  exact ⟨rfl, Below.refl _ _⟩

/-! ### Round -/
def rndV (n u : Int) : Int × Int := if decide (u < 1) || decide (1099511627776 < u) then (0, 2) else if numB n then (rndS n u, 0) else (0, 5)
set_option maxRecDepth 100000 in
theorem round_range (n u : Int) (h : u < 1 ∨ ¬ u < 1 ∧ 1099511627776 < u) (w : World) :
    Calls Tryd.prog 17 #[.int .i64 n, .int .i64 u] w fun e w' => e = .returned (pav (0, 2)) ∧ Below w.heap.size w w' := by
  rcases h with h | ⟨h, h2⟩ <;>
  (go_enter Tryd.func17, Tryd.ntmps17
   go_wp2_with fail
   go_ret2
   exact ⟨rfl, Below.refl _ _⟩)
set_option maxRecDepth 100000 in
theorem round_big (n u : Int) (h1 : ¬ u < 1) (h2 : ¬ 1099511627776 < u) (hn : numB n = false) (w : World) :
    Calls Tryd.prog 17 #[.int .i64 n, .int .i64 u] w fun e w' => e = .returned (pav (0, 5)) ∧ Below w.heap.size w w' := by
  have HN := Lib.hid (fun w => by have := number_any n w; rw [hn] at this; exact this)
  clear hn
  go_enter Tryd.func17, Tryd.ntmps17
  go_wp2_with fail
  refine (HN.out _).mono ?_
  rintro e w1 ⟨rfl, rfl⟩
  go_wp2_with fail
  go_ret2
  exact ⟨rfl, Below.refl _ _⟩
theorem round_any (n u : Int) (w : World) :
    Calls Tryd.prog 17 #[.int .i64 n, .int .i64 u] w fun e w' => e = .returned (pav (rndV n u)) ∧ Below w.heap.size w w' := by
  unfold rndV
  by_cases h1 : u < 1
  · rw [if_pos (by simp [h1])]
    exact round_range n u (.inl h1) w
  by_cases h2 : 1099511627776 < u
  · rw [if_pos (by simp [h2])]
    exact round_range n u (.inr ⟨h1, h2⟩) w
  rw [if_neg (by simp [h1, h2])]
  cases hn : numB n
  · exact round_big n u h1 h2 hn w
  · have hb := numB_iff.1 hn
    have bq := tdiv_le n u
    have h5 : -u < n.tmod u ∧ n.tmod u < u := by
      have a := Int.tmod_lt_of_pos n (show 0 < u by omega)
      have b := Int.lt_tmod_of_pos n (show 0 < u by omega)
      omega
    rw [if_pos rfl, rnd_of (by omega)]
    exact round_core n u _ _ h1 h2 rfl rfl (by omega) h5 (Lib.hid (fun w => by have := number_any n w; rw [hn] at this; exact this)) w

/-! ### Tokens -/
set_option maxRecDepth 100000 in
theorem tokens_long (S : ByteArray) (hS : (262144 : Int) < (S.size : Int)) (w : World) :
    Calls Tryd.prog 19 #[.string S] w fun e w' => tkR ([], (0, 0), 4) w.heap.size e w' ∧ Below w.heap.size w w' := by
  go_enter Tryd.func19, Tryd.ntmps19
  go_wp2_with fail
  generalize hWW : World.alloc _ _ = WW
  have kz : At WW w.heap.size 38 #[.int .i64 0, .int .i64 0] := by rw [← hWW]; repeat (first | (with_reducible apply At.new'; (focus (simp; done))) | with_reducible apply At.al | with_reducible apply At.drw | with_reducible apply At.dr)
  have HB : Below w.heap.size w WW := by rw [← hWW]; repeat (first | with_reducible assumption | with_reducible exact Below.refl _ _ | with_reducible refine below_al ?_ _ | with_reducible refine below_drew ?_ | with_reducible refine below_drewN ?_ _ | with_reducible refine below_set ?_ (by dsimp only; omega) _)
  clear hWW
  have k0 := kz.c0
  have k1 := kz.c1
  exact bodyPost_ret (v := .tuple #[.slice none 0 0, .agg #[.int .i64 0, .int .i64 0], .int .i64 4]) (by simp [results, Tryd.results19, go_sem, k0, k1]) rfl ⟨⟨.slice none 0 0, rfl, World.ownsRow_nil _ _ _ _⟩, HB⟩
theorem tokens_any (S : ByteArray) (w : World) :
    Calls Tryd.prog 19 #[.string S] w fun e w' => tkR (tokS (by_ S)) w.heap.size e w' ∧ Below w.heap.size w w' := by
  unfold tokS
  rw [by_len]
  by_cases h : 262144 < S.size
  · rw [if_pos h]
    exact tokens_long S (by omega) w
  · rw [if_neg h]
    exact tokens_core S (by omega) _ (Lib.hid rfl) w

end Go.Proofs.YtdbgfeeglnpobaaDoor
