/- DecimalTokens' walk: it returns true. -/
import Derived.Test.YtdbgfeeglnpobaaDoorDcU
import Derived.Test.YtdbgfeeglnpobaaDoorDL3
import Derived.Test.YtdbgfeeglnpobaaDoorDL1
set_option linter.unusedVariables false
namespace Go.Proofs.YtdbgfeeglnpobaaDoor
open Go.ChangeShapes Go.WideShapes Go.ChangeAt Go.RowKit

theorem tksC_at : ∀ (l : List Tk) (k : Nat) (hk : k < l.length) (j : Nat), j < 4 → (tksC l)[k * 4 + j]? = (tkC l[k])[j]?
  | t :: l, 0, _, j, hj => by
    rw [show tksC (t :: l) = tkC t ++ tksC l from rfl, List.getElem?_append_left (by show 0 * 4 + j < 4; omega)]
    rw [show 0 * 4 + j = j from by omega]
    rfl
  | t :: l, k + 1, hk, j, hj => by
    rw [show tksC (t :: l) = tkC t ++ tksC l from rfl, List.getElem?_append_right (by show 4 ≤ (k + 1) * 4 + j; omega)]
    rw [show (k + 1) * 4 + j - (tkC t).length = k * 4 + j from by show (k + 1) * 4 + j - 4 = _; omega]
    exact tksC_at l k (by simpa using hk) j hj
/-- The cells of a slice of tokens. -/
def TokAt (w : World) (a : Option Addr) (l : List Tk) : Prop := ∀ (k : Nat) (hk : k < l.length), ∃ g, a = some ⟨g, 0, none⟩ ∧ w.cell? ⟨g, k * 4, none⟩ = some (.int .i64 l[k].kind) ∧ w.cell? ⟨g, k * 4 + 1, none⟩ = some (.string ⟨l[k].text.toArray⟩) ∧ w.cell? ⟨g, k * 4 + 2, none⟩ = some (.int .i64 l[k].line) ∧ w.cell? ⟨g, k * 4 + 3, none⟩ = some (.int .i64 l[k].col)
theorem tokAt_own {w : World} {base : Nat} {e : TypeId} {a : Option Addr} {cap : Nat} {l : List Tk} (h : w.ownsRow base e 4 (.slice a l.length cap) l.length (tksC l)) : TokAt w a l := by
  intro k hk
  obtain ⟨g, cap', e1, _, _, _⟩ := own_shape h (by omega)
  obtain ⟨rfl, _, rfl⟩ : a = some ⟨g, 0, none⟩ ∧ True ∧ cap = cap' := by
    injection e1 with x1 x2 x3
    exact ⟨x1, trivial, x3⟩
  have hc := fun (j : Nat) (hj : j < 4) => (h.cellAt (k * 4 + j) (by omega)).trans (tksC_at l k hk j hj)
  exact ⟨g, rfl, hc 0 (by omega), hc 1 (by omega), hc 2 (by omega), hc 3 (by omega)⟩
theorem own_cap {w : World} {base : Nat} {e : TypeId} {size : Nat} {a : Option Addr} {n m cap : Nat} {xs : List Value} (h : w.ownsRow base e size (.slice a m cap) n xs) : m = n ∧ n ≤ cap ∧ cap ≤ maxLen := by
  obtain ⟨_, ⟨h1, h2⟩ | ⟨g, cap', cur, e1, _, _, e4, e5, _⟩⟩ := h
  · injection h1 with x1 x2 x3
    subst h2 x2 x3
    exact ⟨rfl, Nat.le_refl _, Nat.zero_le _⟩
  · injection e1 with x1 x2 x3
    subst x2 x3
    exact ⟨rfl, e4, e5⟩

set_option maxRecDepth 100000 in
set_option maxHeartbeats 1000000 in
theorem tokEq_any (l : List Tk) (a b : Option Addr) (ca cb : Nat) (hl : l.length ≤ 1000000) (h1 : l.length ≤ ca) (h2 : l.length ≤ cb) (w : World) (ta : Hid (TokAt w a l)) (tb : Hid (TokAt w b l)) :
    Calls Tryd.prog 24 #[.slice a l.length ca, .slice b l.length cb] w fun e w' => e = .returned (.bool true) ∧ Below w.heap.size w w' := by
  obtain ⟨n, hn⟩ : ∃ n, l.length = n := ⟨_, rfl⟩
  rw [hn] at hl h1 h2 ⊢
  replace hn := Lib.hid hn
  go_enter Tryd.func24, Tryd.ntmps24
  go_wp2_with fail
  go_loopg [13] n (fun g i wr => ∃ k : Nat, k ≤ n ∧ i = .int .i64 (k : Int) ∧ Hid (g = n - k) ∧ Below w.heap.size w wr ∧ Hid (TokAt wr a l) ∧ Hid (TokAt wr b l))
  case atStart => exact ⟨0, Nat.zero_le _, rfl, Lib.hid rfl, Below.refl _ _, ta, tb⟩
  case round =>
    clear ta tb
    obtain ⟨k, hk, rfl, hg, HB, ta, tb⟩ := hrel
    by_cases hlt : k < n
    · have hkl : Hid (k < l.length) := Lib.hid (by rw [hn.out]; exact hlt)
      obtain ⟨t, ht⟩ : ∃ t, l[k]'hkl.out = t := ⟨_, rfl⟩
      obtain ⟨ga, rfl, a0, a1, a2, a3⟩ := ta.out k hkl.out
      obtain ⟨gb, rfl, b0, b1, b2, b3⟩ := tb.out k hkl.out
      rw [ht] at a0 a1 a2 a3 b0 b1 b2 b3
      replace ht := Lib.hid ht
      obtain ⟨K, hK⟩ : ∃ K, t.kind = K := ⟨_, rfl⟩
      obtain ⟨X, hX⟩ : ∃ X : ByteArray, ⟨t.text.toArray⟩ = X := ⟨_, rfl⟩
      obtain ⟨L, hL⟩ : ∃ L, t.line = L := ⟨_, rfl⟩
      obtain ⟨Cc, hCc⟩ : ∃ Cc, t.col = Cc := ⟨_, rfl⟩
      rw [hK] at a0 b0
      rw [hX] at a1 b1
      rw [hL] at a2 b2
      rw [hCc] at a3 b3
      clear hK hX hL hCc
      go_wp2_with fail
      go_quiet (fail)
      go_wp2_with fail
      go_roundg (n - (k + 1))
      case measure => have := hg.out; omega
      case rel => exact ⟨k + 1, by omega, by go_num, Lib.hid rfl, below_drewN HB _, ta, tb⟩
    · have e : k = n := by omega
      subst e
      go_wp2_with fail
      go_ret
      exact ⟨rfl, HB⟩

theorem tokF_len : ∀ (f : Nat) (l : List UInt8) (line col : Int) (acc : List Tk), (tokF f l line col acc).1.length ≤ acc.length + f + 1
  | 0, l, line, col, acc => by show (acc ++ [_]).length ≤ _; simp
  | f + 1, l, line, col, acc => by
    unfold tokF
    split
    · simp only [List.length_append, List.length_singleton]; omega
    · split
      · exact Nat.zero_le _
      · split
        · have := tokF_len f (l.drop 1) (line + 1) 1 (acc ++ [⟨4, [], line, col⟩])
          simp only [List.length_append, List.length_singleton] at this
          omega
        · split
          · have := tokF_len f (l.drop (nextL l).2) line (col + (nextL l).2) acc
            omega
          · have := tokF_len f (l.drop (nextL l).2) line (col + (nextL l).2) (acc ++ [⟨(nextL l).1, l.take (nextL l).2, line, col⟩])
            simp only [List.length_append, List.length_singleton] at this
            omega
theorem tok_len (l : List UInt8) : (tokS l).1.length ≤ l.length + 1 := by
  unfold tokS
  split
  · exact Nat.zero_le _
  · have := tokF_len l.length l 1 1 []
    simp only [List.length_nil] at this
    omega
def nameB (l : List UInt8) : Bool := !l.isEmpty && decide (l.length ≤ 20) && isLet (l.headD 0) && decide (runL isWrd l = l.length)

set_option maxRecDepth 100000 in
set_option maxHeartbeats 1000000 in
theorem isName_any (s : ByteArray) (hs : s.size ≤ 9223372036854775806) (w : World) :
    Calls Tryd.prog 25 #[.string s] w fun e w' => e = .returned (.bool (nameB (by_ s))) ∧ Below w.heap.size w w' := by
  obtain ⟨b, hb⟩ : ∃ b, nameB (by_ s) = b := ⟨_, rfl⟩
  rw [hb]
  unfold nameB at hb
  by_cases h0 : s.size = 0
  · have hE : Hid (b = false) := Lib.hid (by
      have : by_ s = [] := List.length_eq_zero_iff.1 (by rw [by_len]; exact h0)
      rw [← hb, this]; rfl)
    have em := em_of s h0
    clear hb
    go_enter Tryd.func25, Tryd.ntmps25
    go_wp2_with fail
    go_ret
    exact ⟨by rw [hE.out]; rfl, Below.refl _ _⟩

  have hp : 0 < s.size := Nat.pos_of_ne_zero h0
  have ne := ne_of s hp
  have hl : (by_ s).length = s.size := rfl
  have hne : (by_ s).isEmpty = false := by rw [← ne, Lib.toList_data]
  rw [hne, hl] at hb
  by_cases h1 : s.size ≤ 20
  · obtain ⟨c, hc⟩ : ∃ c, s[0]'hp = c := ⟨_, rfl⟩
    have hhd := (drop_head s 0 hp c hc).1
    rw [List.drop_zero] at hhd
    rw [hhd] at hb
    have z1 : ((s.size : Int) == 0) = false := by rw [beq_eq_false_iff_ne]; omega
    have z2 : decide ((20 : Int) < (s.size : Int)) = false := by simp; omega
    have HL := Lib.hid (fun w => letter_any c w)
    cases hL : isLet c
    · have hE : Hid (b = false) := Lib.hid (by rw [← hb, hL]; simp)
      rw [hL] at HL
      clear hb hL hhd hne hl
      go_enter Tryd.func25, Tryd.ntmps25
      go_wp2_with fail
      refine (HL.out _).mono ?_
      rintro e w' ⟨rfl, rfl⟩
      go_wp2_with fail
      go_ret
      exact ⟨by rw [hE.out]; rfl, Below.refl _ _⟩

    · rw [hL] at HL
      have HW := Lib.hid (fun w => word_any s hs w)
      have hw := runL_le isWrd (by_ s)
      rw [hl] at hw
      by_cases h2 : runL isWrd (by_ s) = s.size
      · have hE : Hid (b = true) := Lib.hid (by rw [← hb, hL, h2]; simp [h1])
        rw [h2] at HW
        clear hb hL hhd hne hl hw
        go_enter Tryd.func25, Tryd.ntmps25
        go_wp2_with fail
        refine (HL.out _).mono ?_
        rintro e w' ⟨rfl, rfl⟩
        go_wp2_with fail
        refine (HW.out _).mono ?_
        rintro e w' ⟨rfl, rfl⟩
        go_wp2_with fail
        go_ret
        exact ⟨by rw [hE.out]; rfl, Below.refl _ _⟩

      · have hE : Hid (b = false) := Lib.hid (by rw [← hb]; simp [h2])
        generalize runL isWrd (by_ s) = M at *
        have h3 : ¬ (M : Int) = (s.size : Int) := by omega
        have h4 : ((M : Int) == (s.size : Int)) = false := by simpa using h3
        clear hb hL hhd hne hl hw h2
        go_enter Tryd.func25, Tryd.ntmps25
        go_wp2_with fail
        refine (HL.out _).mono ?_
        rintro e w' ⟨rfl, rfl⟩
        go_wp2_with fail
        refine (HW.out _).mono ?_
        rintro e w' ⟨rfl, rfl⟩
        go_wp2_with fail
        go_ret
        exact ⟨by rw [hE.out]; rfl, Below.refl _ _⟩

  · have hE : Hid (b = false) := Lib.hid (by rw [← hb]; simp [h1])
    have z1 : ((s.size : Int) == 0) = false := by rw [beq_eq_false_iff_ne]; omega
    have z2 : decide ((20 : Int) < (s.size : Int)) = true := by simp; omega
    clear hb hne hl
    go_enter Tryd.func25, Tryd.ntmps25
    go_wp2_with fail
    go_ret
    exact ⟨by rw [hE.out]; rfl, Below.refl _ _⟩

set_option maxRecDepth 100000 in
set_option maxHeartbeats 1000000 in
theorem refisName_any (s : ByteArray) (hs : s.size ≤ 9223372036854775806) (w : World) :
    Calls Tryd.prog 26 #[.string s] w fun e w' => e = .returned (.bool (nameB (by_ s))) ∧ Below w.heap.size w w' := by
  obtain ⟨b, hb⟩ : ∃ b, nameB (by_ s) = b := ⟨_, rfl⟩
  rw [hb]
  unfold nameB at hb
  by_cases h0 : s.size = 0
  · have hE : Hid (b = false) := Lib.hid (by
      have : by_ s = [] := List.length_eq_zero_iff.1 (by rw [by_len]; exact h0)
      rw [← hb, this]; rfl)
    have em := em_of s h0
    clear hb
    go_enter Tryd.func26, Tryd.ntmps26
    go_wp2_with fail
    go_ret
    exact ⟨by rw [hE.out]; rfl, Below.refl _ _⟩

  have hp : 0 < s.size := Nat.pos_of_ne_zero h0
  have ne := ne_of s hp
  have hl : (by_ s).length = s.size := rfl
  have hne : (by_ s).isEmpty = false := by rw [← ne, Lib.toList_data]
  rw [hne, hl] at hb
  by_cases h1 : s.size ≤ 20
  · obtain ⟨c, hc⟩ : ∃ c, s[0]'hp = c := ⟨_, rfl⟩
    have hhd := (drop_head s 0 hp c hc).1
    rw [List.drop_zero] at hhd
    rw [hhd] at hb
    have z1 : ((s.size : Int) == 0) = false := by rw [beq_eq_false_iff_ne]; omega
    have z2 : decide ((20 : Int) < (s.size : Int)) = false := by simp; omega
    have HL := Lib.hid (fun w => refLetter_any c w)
    cases hL : isLet c
    · have hE : Hid (b = false) := Lib.hid (by rw [← hb, hL]; simp)
      rw [hL] at HL
      clear hb hL hhd hne hl
      go_enter Tryd.func26, Tryd.ntmps26
      go_wp2_with fail
      refine (HL.out _).mono ?_
      rintro e w' ⟨rfl, rfl⟩
      go_wp2_with fail
      go_ret
      exact ⟨by rw [hE.out]; rfl, Below.refl _ _⟩

    · rw [hL] at HL
      have HW := Lib.hid (fun w => by have := refword_any s 0 (Nat.zero_le _) hs w; rw [runA_zero, Int.natCast_zero] at this; exact this)
      have hw := runL_le isWrd (by_ s)
      rw [hl] at hw
      by_cases h2 : runL isWrd (by_ s) = s.size
      · have hE : Hid (b = true) := Lib.hid (by rw [← hb, hL, h2]; simp [h1])
        rw [h2] at HW
        clear hb hL hhd hne hl hw
        go_enter Tryd.func26, Tryd.ntmps26
        go_wp2_with fail
        refine (HL.out _).mono ?_
        rintro e w' ⟨rfl, rfl⟩
        go_wp2_with fail
        refine (HW.out _).mono ?_
        rintro e w' ⟨rfl, rfl⟩
        go_wp2_with fail
        go_ret
        exact ⟨by rw [hE.out]; rfl, Below.refl _ _⟩

      · have hE : Hid (b = false) := Lib.hid (by rw [← hb]; simp [h2])
        generalize runL isWrd (by_ s) = M at *
        have h3 : ¬ (M : Int) = (s.size : Int) := by omega
        have h4 : ((M : Int) == (s.size : Int)) = false := by simpa using h3
        clear hb hL hhd hne hl hw h2
        go_enter Tryd.func26, Tryd.ntmps26
        go_wp2_with fail
        refine (HL.out _).mono ?_
        rintro e w' ⟨rfl, rfl⟩
        go_wp2_with fail
        refine (HW.out _).mono ?_
        rintro e w' ⟨rfl, rfl⟩
        go_wp2_with fail
        go_ret
        exact ⟨by rw [hE.out]; rfl, Below.refl _ _⟩

  · have hE : Hid (b = false) := Lib.hid (by rw [← hb]; simp [h1])
    have z1 : ((s.size : Int) == 0) = false := by rw [beq_eq_false_iff_ne]; omega
    have z2 : decide ((20 : Int) < (s.size : Int)) = true := by simp; omega
    clear hb hne hl
    go_enter Tryd.func26, Tryd.ntmps26
    go_wp2_with fail
    go_ret
    exact ⟨by rw [hE.out]; rfl, Below.refl _ _⟩

theorem TokAt.bel {w w' : World} {a : Option Addr} {l : List Tk} (h : TokAt w a l) (hb : Below w.heap.size w w') (hlt : ∀ g, a = some ⟨g, 0, none⟩ → g < w.heap.size) : TokAt w' a l := by
  intro k hk
  obtain ⟨g, e, c0, c1, c2, c3⟩ := h k hk
  have hg := hlt g e
  exact ⟨g, e, (hb.cell hg).trans c0, (hb.cell hg).trans c1, (hb.cell hg).trans c2, (hb.cell hg).trans c3⟩
theorem own_tok {w : World} {base : Nat} {e : TypeId} {v : Value} {l : List Tk} (h : w.ownsRow base e 4 v l.length (tksC l)) : ∃ (a : Option Addr) (cap : Nat), v = .slice a l.length cap ∧ l.length ≤ cap ∧ Hid (TokAt w a l ∧ ∀ g, a = some ⟨g, 0, none⟩ → g < w.heap.size) := by
  obtain ⟨a, cap, rfl⟩ := own_slice h
  refine ⟨a, cap, rfl, (own_cap h).2.1, Lib.hid ⟨tokAt_own h, fun g e => ?_⟩⟩
  subst e
  exact (h.lt g rfl).2

set_option maxRecDepth 100000 in
set_option maxHeartbeats 1000000 in
theorem tokens_law (s : ByteArray) (l : List Tk) (x y er : Int) (nb : Bool) (hs : ¬ (1000 : Int) < (s.size : Int)) (w : World)
    (HW : Hid (∀ u, Below w.heap.size w u → Calls Tryd.prog 11 #[] u fun e w' => e = .returned (.bool true) ∧ Below u.heap.size u w'))
    (HT1 : Hid (∀ w, Calls Tryd.prog 19 #[.string s] w fun e w' => tkR (l, (x, y), er) w.heap.size e w' ∧ Below w.heap.size w w'))
    (HT2 : Hid (∀ w, Calls Tryd.prog 23 #[.string s] w fun e w' => tkR (l, (x, y), er) w.heap.size e w' ∧ Below w.heap.size w w'))
    (HE : Hid (∀ a b ca cb w, l.length ≤ ca → l.length ≤ cb → TokAt w a l → TokAt w b l → Calls Tryd.prog 24 #[.slice a l.length ca, .slice b l.length cb] w fun e w' => e = .returned (.bool true) ∧ Below w.heap.size w w'))
    (HN1 : Hid (∀ w, Calls Tryd.prog 25 #[.string s] w fun e w' => e = .returned (.bool nb) ∧ Below w.heap.size w w'))
    (HN2 : Hid (∀ w, Calls Tryd.prog 26 #[.string s] w fun e w' => e = .returned (.bool nb) ∧ Below w.heap.size w w')) :
    Calls Tryd.prog 9 #[.string s] w fun e w' => e = .returned (.bool true) ∧ Below w.heap.size w w' := by
  go_enter Tryd.func9, Tryd.ntmps9
  go_wp2_with fail
  refine (HW.out _ (Below.refl _ _)).mono ?_
  rintro e v1 ⟨rfl, hb1⟩
  have HB : Below w.heap.size w v1 := below_then (by repeat (first | with_reducible assumption | with_reducible exact Below.refl _ _ | with_reducible refine below_al ?_ _ | with_reducible refine below_drew ?_ | with_reducible refine below_drewN ?_ _ | with_reducible refine below_set ?_ (by dsimp only; omega) _)) hb1
  clear hb1
  go_wp2_with fail
  refine (HT1.out _).mono ?_
  rintro e v2 ⟨⟨t1, rfl, hown1⟩, hb2⟩
  replace HB : Below w.heap.size w v2 := below_then (by repeat (first | with_reducible assumption | with_reducible exact Below.refl _ _ | with_reducible refine below_al ?_ _ | with_reducible refine below_drew ?_ | with_reducible refine below_drewN ?_ _ | with_reducible refine below_set ?_ (by dsimp only; omega) _)) hb2
  clear hb2
  obtain ⟨a1, cap1, rfl, hc1, ta⟩ := own_tok hown1
  clear hown1
  go_wp2_with fail
  refine (HT2.out _).mono ?_
  rintro e v3 ⟨⟨t2, rfl, hown2⟩, hb3⟩
  have k_p : At v3 (v2.heap.size) 38 #[.int .i64 x, .int .i64 y] := At.bel (by (repeat (first | (with_reducible apply At.new'; (focus (simp; done))) | with_reducible apply At.al | with_reducible apply At.drw | with_reducible apply At.dr))) hb3
  replace HB : Below w.heap.size w v3 := below_then (by repeat (first | with_reducible assumption | with_reducible exact Below.refl _ _ | with_reducible refine below_al ?_ _ | with_reducible refine below_drew ?_ | with_reducible refine below_drewN ?_ _ | with_reducible refine below_set ?_ (by dsimp only; omega) _)) hb3
  have hk3 := Lib.hid (below_then (below_al (Below.refl _ _) _) hb3 : Below v2.heap.size v2 v3)
  clear hb3
  obtain ⟨a2, cap2, rfl, hc2, tb⟩ := own_tok hown2
  clear hown2
  go_wp2_with fail
  refine (HE.out a1 a2 cap1 cap2 _ hc1 hc2 (TokAt.bel (TokAt.bel ta.out.1 hk3.out ta.out.2) (below_al (Below.refl _ _) _) (fun g e => Nat.lt_of_lt_of_le (ta.out.2 g e) hk3.out.size)) (TokAt.bel tb.out.1 (below_al (Below.refl _ _) _) tb.out.2)).mono ?_
  rintro e v4 ⟨rfl, hb4⟩
  replace k_p : At v4 (v2.heap.size) 38 #[.int .i64 x, .int .i64 y] := At.bel (by repeat (first | with_reducible assumption | with_reducible apply At.put0 | with_reducible apply At.put1 | with_reducible refine At.far ?_ (by dsimp only; omega) _ | with_reducible apply At.al | with_reducible apply At.drw | with_reducible apply At.dr)) hb4
  have k_q : At v4 (v3.heap.size) 38 #[.int .i64 x, .int .i64 y] := At.bel (by (repeat (first | (with_reducible apply At.new'; (focus (simp; done))) | with_reducible apply At.al | with_reducible apply At.drw | with_reducible apply At.dr))) hb4
  replace HB : Below w.heap.size w v4 := below_then (by repeat (first | with_reducible assumption | with_reducible exact Below.refl _ _ | with_reducible refine below_al ?_ _ | with_reducible refine below_drew ?_ | with_reducible refine below_drewN ?_ _ | with_reducible refine below_set ?_ (by dsimp only; omega) _)) hb4
  clear hb4
  have Lk_p := k_p.lt
  obtain ⟨k_p0, k_p1, k_p2, k_p3⟩ := k_p.two
  have Lk_q := k_q.lt
  obtain ⟨k_q0, k_q1, k_q2, k_q3⟩ := k_q.two
  go_wp2_with fail
  refine (HN1.out _).mono ?_
  rintro e v5 ⟨rfl, hb5⟩
  clear k_p0 k_p1 k_p2 k_p3 Lk_p k_q0 k_q1 k_q2 k_q3 Lk_q
  replace k_p : At v5 (v2.heap.size) 38 #[.int .i64 x, .int .i64 y] := At.bel (by repeat (first | with_reducible assumption | with_reducible apply At.put0 | with_reducible apply At.put1 | with_reducible refine At.far ?_ (by dsimp only; omega) _ | with_reducible apply At.al | with_reducible apply At.drw | with_reducible apply At.dr)) hb5
  replace k_q : At v5 (v3.heap.size) 38 #[.int .i64 x, .int .i64 y] := At.bel (by repeat (first | with_reducible assumption | with_reducible apply At.put0 | with_reducible apply At.put1 | with_reducible refine At.far ?_ (by dsimp only; omega) _ | with_reducible apply At.al | with_reducible apply At.drw | with_reducible apply At.dr)) hb5
  replace HB : Below w.heap.size w v5 := below_then (by repeat (first | with_reducible assumption | with_reducible exact Below.refl _ _ | with_reducible refine below_al ?_ _ | with_reducible refine below_drew ?_ | with_reducible refine below_drewN ?_ _ | with_reducible refine below_set ?_ (by dsimp only; omega) _)) hb5
  clear hb5
  have Lk_p := k_p.lt
  obtain ⟨k_p0, k_p1, k_p2, k_p3⟩ := k_p.two
  have Lk_q := k_q.lt
  obtain ⟨k_q0, k_q1, k_q2, k_q3⟩ := k_q.two
  go_wp2_with fail
  refine (HN2.out _).mono ?_
  rintro e v6 ⟨rfl, hb6⟩
  clear k_p0 k_p1 k_p2 k_p3 Lk_p k_q0 k_q1 k_q2 k_q3 Lk_q
  replace k_p : At v6 (v2.heap.size) 38 #[.int .i64 x, .int .i64 y] := At.bel (by repeat (first | with_reducible assumption | with_reducible apply At.put0 | with_reducible apply At.put1 | with_reducible refine At.far ?_ (by dsimp only; omega) _ | with_reducible apply At.al | with_reducible apply At.drw | with_reducible apply At.dr)) hb6
  replace k_q : At v6 (v3.heap.size) 38 #[.int .i64 x, .int .i64 y] := At.bel (by repeat (first | with_reducible assumption | with_reducible apply At.put0 | with_reducible apply At.put1 | with_reducible refine At.far ?_ (by dsimp only; omega) _ | with_reducible apply At.al | with_reducible apply At.drw | with_reducible apply At.dr)) hb6
  replace HB : Below w.heap.size w v6 := below_then (by repeat (first | with_reducible assumption | with_reducible exact Below.refl _ _ | with_reducible refine below_al ?_ _ | with_reducible refine below_drew ?_ | with_reducible refine below_drewN ?_ _ | with_reducible refine below_set ?_ (by dsimp only; omega) _)) hb6
  clear hb6
  have Lk_p := k_p.lt
  obtain ⟨k_p0, k_p1, k_p2, k_p3⟩ := k_p.two
  have Lk_q := k_q.lt
  obtain ⟨k_q0, k_q1, k_q2, k_q3⟩ := k_q.two
  go_wp2_with fail
  go_ret
  exact ⟨rfl, (by repeat (first | with_reducible assumption | with_reducible exact Below.refl _ _ | with_reducible refine below_al ?_ _ | with_reducible refine below_drew ?_ | with_reducible refine below_drewN ?_ _ | with_reducible refine below_set ?_ (by dsimp only; omega) _))⟩

set_option maxRecDepth 100000 in
theorem tokens_big (s : ByteArray) (hs : (1000 : Int) < (s.size : Int)) (w : World)
    (HW : Hid (∀ u, Below w.heap.size w u → Calls Tryd.prog 11 #[] u fun e w' => e = .returned (.bool true) ∧ Below u.heap.size u w')) :
    Calls Tryd.prog 9 #[.string s] w fun e w' => e = .returned (.bool true) ∧ Below w.heap.size w w' := by
  go_enter Tryd.func9, Tryd.ntmps9
  go_wp2_with fail
  refine (HW.out _ (Below.refl _ _)).mono ?_
  rintro e w1 ⟨rfl, HB⟩
  go_wp2_with fail
  go_ret
  exact ⟨rfl, HB⟩
theorem decimalTokens_walk (s : ByteArray) (w : World) (ht : Tab w) :
    Calls Tryd.prog 9 #[.string s] w fun e w' => e = .returned (.bool true) ∧ Below w.heap.size w w' := by
  have HW := Lib.hid (fun u (hb : Below w.heap.size w u) => awake_any u (ht.bel hb))
  by_cases h : (1000 : Int) < (s.size : Int)
  · exact tokens_big s h w HW
  · have H1 := fun w => tokens_any s w
    have H2 := fun w => reftokens_core s (by omega) (tokS (by_ s)) (Lib.hid (by unfold tokS; rw [by_len, if_neg (by omega)])) w
    have hlen : (tokS (by_ s)).1.length ≤ 1000000 := by
      have := tok_len (by_ s)
      rw [by_len] at this
      omega
    generalize tokS (by_ s) = R at *
    obtain ⟨l, ⟨x, y⟩, er⟩ := R
    exact tokens_law s l x y er _ h w HW (Lib.hid H1) (Lib.hid H2) (Lib.hid fun a b ca cb w h1 h2 h3 h4 => tokEq_any l a b ca cb hlen h1 h2 w (Lib.hid h3) (Lib.hid h4)) (Lib.hid fun w => isName_any s (by omega) w) (Lib.hid fun w => refisName_any s (by omega) w)

end Go.Proofs.YtdbgfeeglnpobaaDoor
