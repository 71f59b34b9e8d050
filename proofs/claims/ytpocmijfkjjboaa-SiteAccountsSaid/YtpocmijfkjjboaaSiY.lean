/- site's laws: large. -/
import Derived.Test.YtpocmijfkjjboaaSiC
set_option linter.unusedVariables false
namespace Go.Proofs.Ytpocmijfkjjboaa
open Go.ChangeShapes Go.WideShapes Go.ChangeAt Go.RowKit

set_option maxRecDepth 100000 in
theorem long_any (d k : Int) (x : ByteArray) (w : World) : Calls Try.prog 27 #[.agg #[.int .i64 d, .int .i64 k, .string x]] w fun e w' => e = .returned (.bool (decide (60 < x.size))) ∧ Below w.heap.size w w' := by
  by_cases h : 60 < x.size
  · rw [decide_eq_true h]
    go_enter Try.func27, Try.ntmps27
    go_wp2_with fail
    go_ret
    exact ⟨by first | rfl | (congr 2; simp; omega), (by repeat (first | with_reducible assumption | with_reducible exact Below.refl _ _ | with_reducible refine below_al ?_ _ | with_reducible refine below_drew ?_ | with_reducible refine below_drewN ?_ _ | with_reducible refine below_set ?_ (by dsimp only; omega) _))⟩
  · rw [decide_eq_false h]
    go_enter Try.func27, Try.ntmps27
    go_wp2_with fail
    go_ret
    exact ⟨by first | rfl | (congr 2; simp; omega), (by repeat (first | with_reducible assumption | with_reducible exact Below.refl _ _ | with_reducible refine below_al ?_ _ | with_reducible refine below_drew ?_ | with_reducible refine below_drewN ?_ _ | with_reducible refine below_set ?_ (by dsimp only; omega) _))⟩
def shortE (l : List Ent) : Bool := l.all fun x => decide (x.name.size ≤ 60)

set_option maxRecDepth 100000 in
set_option maxHeartbeats 1000000 in
theorem idxFuncE_any (l : List Ent) (ao : Option Addr) (cap : Nat) (hl : l.length ≤ cap) (hc : cap ≤ 9223372036854775807) (B : Nat) (w : World) (hB : B ≤ w.heap.size) (ha : Hid (RowAt encE 3 B w ao l)) :
    Calls Try.prog 45 #[.slice ao l.length cap, .func (.func 27) #[] #[]] w fun e w' => (∃ i : Int, e = .returned (.int .i64 i) ∧ (shortE l = true ∧ i = -1 ∨ shortE l = false ∧ 0 ≤ i)) ∧ Below w.heap.size w w' := by
  obtain ⟨n, hn⟩ : ∃ n, l.length = n := ⟨_, rfl⟩
  rw [hn] at hl ⊢
  replace hn := Lib.hid hn
  go_enter Try.func45, Try.ntmps45
  go_wp2_with fail
  go_loopg [8] n (fun g i wr => ∃ k : Nat, k ≤ n ∧ i = .int .i64 (k : Int) ∧ Hid (g = n - k ∧ shortE (l.take k) = true) ∧ Below w.heap.size w wr ∧ Hid (RowAt encE 3 B wr ao l))
  case atStart => exact ⟨0, Nat.zero_le _, rfl, Lib.hid ⟨rfl, rfl⟩, Below.refl _ _, ha⟩
  case round =>
    clear ha
    obtain ⟨k, hk, rfl, hr, HB, ha⟩ := hrel
    by_cases hlt : k < n
    · have hkl : Hid (k < l.length) := Lib.hid (by rw [hn.out]; exact hlt)
      obtain ⟨b, off, rfl, c0, c1, c2, hb⟩ := ha.out.ent k hkl.out
      obtain ⟨x, hx⟩ : ∃ x, l[k]'hkl.out = x := ⟨_, rfl⟩
      rw [hx] at c0 c1 c2
      replace hx := Lib.hid hx
      obtain ⟨xd, xk, xn⟩ := x
      dsimp only at c0 c1 c2
      have HC := Lib.hid (fun w => long_any xd xk xn w)
      cases hv : decide (60 < xn.size)
      · rw [hv] at HC
        replace hv := Lib.hid (of_decide_eq_false hv)
        go_wp2_with fail
        refine (HC.out _).mono ?_
        rintro e w1 ⟨rfl, hb1⟩
        have ha' := Lib.hid (ha.out.bel (Nat.le_trans hB HB.size) hb1)
        replace HB := below_then HB hb1
        clear hb1 c0 c1 c2 ha hb
        go_wp2_with fail
        go_roundg (n - (k + 1))
        case measure => have := hr.out.1; omega
        case rel =>
          refine ⟨k + 1, by omega, by go_num, Lib.hid ⟨rfl, ?_⟩, HB, ha'⟩
          unfold shortE
          rw [List.take_succ_eq_append_getElem hkl.out, List.all_append, show (List.all (List.take k l) fun x => decide (x.name.size ≤ 60)) = true from hr.out.2, hx.out]
          have := hv.out
          simp
          omega
      · rw [hv] at HC
        have hE : Hid (shortE l = false) := Lib.hid (by
          unfold shortE
          cases h : l.all fun x => decide (x.name.size ≤ 60)
          · rfl
          · have := List.all_eq_true.1 h _ (List.getElem_mem hkl.out)
            rw [hx.out] at this
            have h1 := of_decide_eq_true hv
            have h2 : xn.size ≤ 60 := of_decide_eq_true this
            omega)
        clear hv
        go_wp2_with fail
        refine (HC.out _).mono ?_
        rintro e w1 ⟨rfl, hb1⟩
        replace HB := below_then HB hb1
        clear hb1
        go_wp2_with fail
        go_ret
        exact ⟨⟨(k : Int), rfl, .inr ⟨hE.out, by omega⟩⟩, HB⟩
    · have hE : Hid (shortE l = true) := Lib.hid (by
        have := hr.out.2
        rwa [List.take_of_length_le (by have := hn.out; omega)] at this)
      go_wp2_with fail
      go_ret
      exact ⟨⟨-1, rfl, .inl ⟨hE.out, rfl⟩⟩, HB⟩

set_option maxRecDepth 100000 in
set_option maxHeartbeats 1000000 in
theorem containsFuncE_any (l : List Ent) (ao : Option Addr) (cap : Nat) (hl : l.length ≤ cap) (hc : cap ≤ 9223372036854775807) (B : Nat) (w : World) (hB : B ≤ w.heap.size) (ha : Hid (RowAt encE 3 B w ao l)) :
    Calls Try.prog 26 #[.slice ao l.length cap, .func (.func 27) #[] #[]] w fun e w' => e = .returned (.bool (!shortE l)) ∧ Below w.heap.size w w' := by
  have H := idxFuncE_any l ao cap hl hc B w hB ha
  obtain ⟨n, hn⟩ : ∃ n, l.length = n := ⟨_, rfl⟩
  rw [hn] at H ⊢
  clear hn
  generalize shortE l = b at *
  replace H := Lib.hid H
  go_enter Try.func26, Try.ntmps26
  go_wp2_with fail
  refine (H.out).mono ?_
  rintro e w1 ⟨⟨i, rfl, h⟩, HB⟩
  rcases h with ⟨rfl, rfl⟩ | ⟨rfl, h⟩
  · go_wp2_with fail
    go_ret
    exact ⟨rfl, HB⟩
  · go_wp2_with fail
    go_ret
    exact ⟨rfl, HB⟩

def largeB (l : List Bun) (m : ByteArray) (es : List Ent) : Bool := !shortB l 8 || decide (60 < m.size) || decide (25 < es.length) || !shortE es
set_option maxRecDepth 100000 in
set_option maxHeartbeats 1000000 in
theorem large_any (l : List Bun) (m : ByteArray) (es : List Ent) (a1 a2 : Option Addr) (c1 c2 : Nat) (h1 : l.length ≤ c1) (h2 : es.length ≤ c2) (hc1 : c1 ≤ 9223372036854775807) (hc2 : c2 ≤ 9223372036854775807) (w : World) (r1 : RowAt encB 4 w.heap.size w a1 l) (r2 : RowAt encE 3 w.heap.size w a2 es) :
    Calls Try.prog 8 #[.slice a1 l.length c1, .string m, .slice a2 es.length c2] w fun e w' => e = .returned (.bool (largeB l m es)) ∧ Below w.heap.size w w' := by
  have HS := Lib.hid (short36_any l 8 a1 c1 h1 (by decide) hc1 _ w (Lib.hid r1))
  have HC := Lib.hid (containsFuncE_any es a2 c2 h2 hc2 _ w (Nat.le_refl _) (Lib.hid r2))
  unfold largeB
  generalize shortB l 8 = b1 at *
  generalize shortE es = b2 at *
  obtain ⟨n, hn⟩ : ∃ n, l.length = n := ⟨_, rfl⟩
  obtain ⟨k, hk⟩ : ∃ k, es.length = k := ⟨_, rfl⟩
  rw [hn] at HS ⊢
  rw [hk] at HC ⊢
  clear hn hk r1 r2 h1 h2
  go_enter Try.func8, Try.ntmps8
  go_wp2_with fail
  refine (HS.out).mono ?_
  rintro e w1 ⟨rfl, rfl⟩
  cases b1
  · go_wp2_with fail
    go_ret
    exact ⟨rfl, Below.refl _ _⟩
  by_cases t2 : 60 < m.size
  · go_wp2_with fail
    go_ret
    exact ⟨by first | rfl | simp [*], Below.refl _ _⟩
  by_cases t3 : 25 < k
  · go_wp2_with fail
    go_ret
    exact ⟨by first | rfl | simp [*], Below.refl _ _⟩
  go_wp2_with fail
  refine (HC.out).mono ?_
  rintro e w1 ⟨rfl, HB⟩
  cases b2
  · go_wp2_with fail
    go_ret
    exact ⟨by first | rfl | simp [*], HB⟩
  · go_wp2_with fail
    go_ret
    exact ⟨by first | rfl | simp [*], HB⟩

end Go.Proofs.Ytpocmijfkjjboaa
