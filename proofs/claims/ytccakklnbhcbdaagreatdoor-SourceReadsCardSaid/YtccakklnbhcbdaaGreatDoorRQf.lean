import Derived.Test.YtccakklnbhcbdaaGreatDoorRQd
import Derived.Test.YtccakklnbhcbdaaGreatDoorRQc
set_option linter.unusedVariables false
namespace Go.Proofs.YtccakklnbhcbdaaGreatDoor
open Go.Lib (decDigits itoa)
abbrev KT := Int × List UInt8
def kt (t : Tk) : KT := (t.kind, t.text)
def numK (n : Int) : List KT := if n < 0 then [(3, [45]), (2, decDigits n.natAbs)] else [(2, decDigits n.natAbs)]
theorem fit_all {l : List Int} (h : fitB l = true) : ∀ n ∈ l, -999999999999999 ≤ n ∧ n ≤ 999999999999999 := fun n hn => by simpa using List.all_eq_true.1 h n hn
structure Ln where
 w : List UInt8
 nm : List UInt8
 n : List Int
structure Ln.good (x : Ln) : Prop where
 least : 0 < leastW x.w
 len : if x.w = wBar then leastW x.w ≤ x.n.length else x.n.length = leastW x.w
 fit : ∀ n ∈ x.n, -999999999999999 ≤ n ∧ n ≤ 999999999999999
 nm : namedW x.w = true → nameB x.nm = true
end Go.Proofs.YtccakklnbhcbdaaGreatDoor
set_option linter.unusedVariables false
namespace Go.Proofs.YtccakklnbhcbdaaGreatDoor
open Go.Lib (decDigits itoa)
theorem tokG_sp (f : Nat) (r : List UInt8) (line col : Int) : tokG (f + 1) (32 :: r) line col = tokG f r line (col + 1) := by
 conv => lhs; unfold tokG
 rw [if_neg (by simp), nextL_sp]
 simp only [List.drop_succ_cons, List.drop_zero]
 rw [if_neg (by decide), if_neg (by decide)]
 rfl
theorem tokG_tok {f : Nat} {t r : List UInt8} {k : Int} (hk : 1 ≤ k ∧ k ≤ 3) (ht : t ≠ []) (hn : nextL (t ++ r) = (k, t.length)) (line col : Int) : tokG (f + 1) (t ++ r) line col = (tokG f r line (col + t.length)).map (⟨k, t, line, col⟩ :: ·) := by
 conv => lhs; unfold tokG
 rw [if_neg (by simp [ht]), hn]
 simp only
 rw [if_neg (by omega), if_neg (by omega), if_neg (by omega), List.drop_left, List.take_left]
theorem next_word {t r : List UInt8} {c : UInt8} (ht : nameB t = true) (hc : isWrd c = false) : nextL (t ++ c :: r) = (1, t.length) := by
 unfold nameB at ht
 simp only [Bool.and_eq_true, Bool.not_eq_true', decide_eq_true_eq] at ht
 obtain ⟨⟨⟨h1, h2⟩, h3⟩, h4⟩ := ht
 cases t with
 | nil => simp at h1
 | cons x t =>
  have h3' : isLet x = true := h3
  have hall : (x :: t).all isWrd = true := by
   have e0 : (x :: t).takeWhile isWrd = x :: t := (List.takeWhile_prefix isWrd).eq_of_length h4
   have := List.all_takeWhile (p := isWrd) (l := x :: t)
   rwa [e0] at this
  have e1 := runL_all hall c hc r
  rw [List.cons_append] at e1 ⊢
  have l1 : ¬ (x.toNat = 32 ∨ x.toNat = 9) := by
   rintro (q | q)
   ·rw [show x = 32 from UInt8.toNat_inj.1 q] at h3'; exact absurd h3' (by decide)
   ·rw [show x = 9 from UInt8.toNat_inj.1 q] at h3'; exact absurd h3' (by decide)
  have l2 : ¬ x.toNat = 10 := by
   intro q
   rw [show x = 10 from UInt8.toNat_inj.1 q] at h3'; exact absurd h3' (by decide)
  have l3 : ¬ x.toNat = 35 := by
   intro q
   rw [show x = 35 from UInt8.toNat_inj.1 q] at h3'; exact absurd h3' (by decide)
  rw [nextL_name l1 l2 l3 h3', e1, if_neg (by omega)]
theorem next_dec (n : Nat) (r : List UInt8) (c : UInt8) (hc : isDig c = false ∧ c.toNat ≠ 46) : nextL (decDigits n ++ c :: r) = (2, (decDigits n).length) := by
 have hd := dec_dig n
 have hall : (decDigits n).all isDig = true := by
  rw [List.all_eq_true]
  intro b hb
  exact List.all_eq_true.1 hd.1 b hb
 obtain ⟨x, t, hx⟩ := List.exists_cons_of_ne_nil hd.2
 have hnum : numL (decDigits n ++ c :: r) = (decDigits n).length := by
  unfold numL numA
  rw [runA_zero, runL_all hall c hc.1, getD_mid, if_neg (by simp [hc.2])]
 rw [hx] at hall hnum ⊢
 rw [List.cons_append] at hnum ⊢
 have hdx : isDig x = true := by simp only [List.all_cons, Bool.and_eq_true] at hall; exact hall.1
 have hb : 48 ≤ x.toNat ∧ x.toNat ≤ 57 := by simpa [isDig] using hdx
 rw [nextL_num (by omega) (by omega) (by omega) (by simp [isLet]; omega) hdx, hnum]
theorem next_minus (r : List UInt8) : nextL (45 :: r) = (3, 1) := by
 have e : symL (45 :: r) = 1 := by
  rw [symL_cons, if_neg (by simp), if_pos (by decide)]
 rw [nextL_sym (by decide) (by decide) (by decide) (by decide) (by decide), e]
 rfl
def Gives (t : List UInt8) (k : List KT) (c : UInt8) : Prop := ∀ (r : List UInt8) (f : Nat) (line col : Int), (t ++ c :: r).length ≤ f → ∃ g ts line' col', (c :: r).length ≤ g ∧ ts.map kt = k ∧ tokG f (t ++ c :: r) line col = (tokG g (c :: r) line' col').map (ts ++ ·)
theorem Gives.nil (c : UInt8) : Gives [] [] c := fun r f line col hf => ⟨f, [], line, col, hf, rfl, by simp⟩
theorem Gives.app {t u : List UInt8} {k m : List KT} {c : UInt8} {d : UInt8} {v : List UInt8} (hu : u = d :: v) (h1 : Gives t k d) (h2 : Gives u m c) : Gives (t ++ u) (k ++ m) c := by
 intro r f line col hf
 subst hu
 obtain ⟨g, ts, l1, c1, a1, a2, a3⟩ := h1 (v ++ c :: r) f line col (by simpa using hf)
 obtain ⟨g2, ts2, l2, c2, b1, b2, b3⟩ := h2 r g l1 c1 (by simpa using a1)
 refine ⟨g2, ts ++ ts2, l2, c2, b1, by rw [List.map_append, a2, b2], ?_⟩
 have e : t ++ d :: v ++ c :: r = t ++ d :: (v ++ c :: r) := by simp
 rw [e, a3, show d :: (v ++ c :: r) = (d :: v) ++ c :: r from rfl, b3, Option.map_map]
 congr 1
 funext x
 simp
theorem Gives.word {t : List UInt8} {c : UInt8} (ht : nameB t = true) (hc : isWrd c = false) : Gives t [(1, t)] c := by
 intro r f line col hf
 have hne : t ≠ [] := by
  rintro rfl
  exact absurd ht (by decide)
 have hp := List.length_pos_iff.2 hne
 rw [List.length_append] at hf
 obtain ⟨f, rfl⟩ : ∃ g, f = g + 1 := ⟨f - 1, by omega⟩
 exact ⟨f, [⟨1, t, line, col⟩], line, col + t.length, by omega, rfl, tokG_tok (by omega) hne (next_word ht hc) line col⟩
theorem Gives.num {n : Int} {c : UInt8} (hc : isDig c = false ∧ c.toNat ≠ 46) : Gives (32 :: itoa n) (numK n) c := by
 intro r f line col hf
 have hd := (dec_dig n.natAbs).2
 have hp := List.length_pos_iff.2 hd
 by_cases hs : n < 0
 ·have e : itoa n = 45 :: decDigits n.natAbs := by
   unfold itoa
   rw [if_pos hs]
  rw [e] at hf ⊢
  simp only [List.cons_append, List.length_cons, List.length_append] at hf
  obtain ⟨f, rfl⟩ : ∃ g, f = g + 3 := ⟨f - 3, by omega⟩
  refine ⟨f, [⟨3, [45], line, col + 1⟩, ⟨2, decDigits n.natAbs, line, col + 1 + 1⟩], line, col + 1 + 1 + (decDigits n.natAbs).length, by simp only [List.length_cons]; omega, by unfold numK; rw [if_pos hs]; rfl, ?_⟩
  show tokG (f + 2 + 1) (32 :: (45 :: (decDigits n.natAbs ++ c :: r))) line col = _
  rw [tokG_sp]
  have t1 := tokG_tok (f := f + 1) (t := [45]) (r := decDigits n.natAbs ++ c :: r) (k := 3) (by omega) (by simp) (next_minus _) line (col + 1)
  have t2 := tokG_tok (f := f) (t := decDigits n.natAbs) (r := c :: r) (k := 2) (by omega) hd (next_dec _ r c hc) line (col + 1 + 1)
  show tokG (f + 1 + 1) ([45] ++ (decDigits n.natAbs ++ c :: r)) line (col + 1) = _
  rw [t1]
  have e1 : (([45] : List UInt8).length : Int) = 1 := rfl
  rw [e1, t2, Option.map_map]
  rfl
 ·have e : itoa n = decDigits n.natAbs := by
   unfold itoa
   rw [if_neg hs, show n.toNat = n.natAbs by omega]
  rw [e] at hf ⊢
  simp only [List.cons_append, List.length_cons, List.length_append] at hf
  obtain ⟨f, rfl⟩ : ∃ g, f = g + 2 := ⟨f - 2, by omega⟩
  refine ⟨f, [⟨2, decDigits n.natAbs, line, col + 1⟩], line, col + 1 + (decDigits n.natAbs).length, by simp only [List.length_cons]; omega, by unfold numK; rw [if_neg hs]; rfl, ?_⟩
  show tokG (f + 1 + 1) (32 :: (decDigits n.natAbs ++ c :: r)) line col = _
  rw [tokG_sp, tokG_tok (f := f) (t := decDigits n.natAbs) (r := c :: r) (k := 2) (by omega) hd (next_dec _ r c hc) line (col + 1)]
  rfl
theorem Gives.nums : ∀ (l : List Int), Gives (l.flatMap fun n => 32 :: itoa n) (l.flatMap numK) 10
 | [] => Gives.nil 10
 | [n] => by
  have := Gives.num (n := n) (c := 10) (by decide)
  simpa using this
 | n :: m :: l => by
  have h1 := Gives.num (n := n) (c := 32) (by decide)
  have h2 := Gives.nums (m :: l)
  rw [List.flatMap_cons, List.flatMap_cons (f := numK)]
  exact Gives.app (d := 32) (v := itoa m ++ l.flatMap fun n => 32 :: itoa n) (by simp) h1 h2
end Go.Proofs.YtccakklnbhcbdaaGreatDoor
set_option linter.unusedVariables false
namespace Go.Proofs.YtccakklnbhcbdaaGreatDoor
end Go.Proofs.YtccakklnbhcbdaaGreatDoor
