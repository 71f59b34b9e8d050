/- Plain: the tokens of a text that goes on behind a newline; what is read of a source with two lines more. -/
import Derived.Test.YtccakklnbhcbdaaGreatDoorQg
set_option linter.unusedVariables false
namespace Go.Proofs.YtccakklnbhcbdaaGreatDoor

theorem runL_more {p : UInt8 → Bool} (hp : p 10 = false) (r : List UInt8) : ∀ a : List UInt8, runL p (a ++ 10 :: r) = runL p a
  | [] => by
    rw [List.nil_append, runL_cons, if_neg (by rw [hp]; decide)]
    rfl
  | c :: a => by rw [List.cons_append, runL_cons, runL_cons, runL_more hp r a]
theorem numL_more (a r : List UInt8) : numL (a ++ 10 :: r) = numL a := by
  unfold numL numA
  rw [runA_zero, runA_zero, runL_more (by decide)]
  have hk := runL_le isDig a
  generalize runL isDig a = k at hk
  by_cases h : k + 1 < a.length
  · have e1 : (a ++ 10 :: r).getD k 0 = a.getD k 0 := by simp [List.getD, List.getElem?_append_left (show k < a.length by omega)]
    have e2 : (a ++ 10 :: r).getD (k + 1) 0 = a.getD (k + 1) 0 := by simp [List.getD, List.getElem?_append_left h]
    have e3 : runA isDig (a ++ 10 :: r) (k + 1) = runA isDig a (k + 1) := by
      unfold runA
      rw [List.drop_append_of_le_length (by omega), runL_more (by decide)]
    have e4 : decide (k + 1 < (a ++ 10 :: r).length) = decide (k + 1 < a.length) := decide_eq_decide.2 (by rw [List.length_append]; omega)
    rw [e1, e2, e3, e4]
  · have e4 : decide (k + 1 < a.length) = false := decide_eq_false h
    refine (if_neg ?_).trans (if_neg (by rw [e4, Bool.false_and, Bool.false_and]; decide)).symm
    intro q
    simp only [Bool.and_eq_true, decide_eq_true_eq] at q
    obtain ⟨⟨q1, q2⟩, q3⟩ := q
    rcases Nat.lt_or_ge k a.length with hlt | hge
    · have e : k + 1 = a.length := by omega
      rw [e, getD_mid] at q3
      exact absurd q3 (by decide)
    · have e : k = a.length := by omega
      rw [e, getD_mid] at q2
      exact absurd q2 (by decide)
theorem next_more {l : List UInt8} (h : l ≠ []) (r : List UInt8) : nextL (l ++ 10 :: r) = nextL l := by
  obtain ⟨c, t, rfl⟩ := List.exists_cons_of_ne_nil h
  have key : ∀ {p : UInt8 → Bool}, p 10 = false → runL p (c :: (t ++ 10 :: r)) = runL p (c :: t) := fun hp => runL_more hp r (c :: t)
  rw [List.cons_append]
  by_cases c1 : c.toNat = 32 ∨ c.toNat = 9
  · have e : ∀ x, nextL (c :: x) = (0, 1) := fun x => by unfold nextL; dsimp only [List.headD_cons]; rw [if_pos c1]
    rw [e, e]
  by_cases c2 : c.toNat = 10
  · have e : ∀ x, nextL (c :: x) = (4, 1) := fun x => by unfold nextL; dsimp only [List.headD_cons]; rw [if_neg c1, if_pos c2]
    rw [e, e]
  by_cases c3 : c.toNat = 35
  · have e : ∀ x, nextL (c :: x) = (0, runL (fun c => decide (c.toNat ≠ 10)) (c :: x)) := fun x => by unfold nextL; dsimp only [List.headD_cons]; rw [if_neg c1, if_neg c2, if_pos c3]
    rw [e, e, key (by decide)]
  by_cases c4 : isLet c = true
  · rw [nextL_name c1 c2 c3 c4, nextL_name c1 c2 c3 c4, key (by decide)]
  by_cases c5 : isDig c = true
  · rw [nextL_num c1 c2 c3 c4 c5, nextL_num c1 c2 c3 c4 c5]
    have := numL_more (c :: t) r
    rw [List.cons_append] at this
    rw [this]
  · have e : symL (c :: (t ++ 10 :: r)) = symL (c :: t) := by
      rw [symL_cons, symL_cons]
      cases t with
      | nil =>
        have e1 : decide (((([] : List UInt8) ++ 10 :: r).headD 0).toNat = 61) = false := by simp
        have e2 : decide ((([] : List UInt8).headD 0).toNat = 61) = false := by decide
        rw [e1, e2]
      | cons x t => rfl
    rw [nextL_sym c1 c2 c3 c4 c5, nextL_sym c1 c2 c3 c4 c5, e]
theorem tokG_more : ∀ (f : Nat) (l : List UInt8) (line col : Int) (ts : List Tk), tokG f l line col = some ts → l.length ≤ f → ∀ (r : List UInt8) (g : Nat), (l ++ 10 :: r).length ≤ g → ∃ ts0 e g', ts = ts0 ++ [e] ∧ e.kind = 5 ∧ (∀ t ∈ ts0, t.kind ≠ 5) ∧ r.length ≤ g' ∧ tokG g (l ++ 10 :: r) line col = (tokG g' r (e.line + 1) 1).map ((ts0 ++ [⟨4, [], e.line, e.col⟩]) ++ ·) := by
  have fin : ∀ (line col : Int) (r : List UInt8) (g : Nat), (([] : List UInt8) ++ 10 :: r).length ≤ g → ∃ ts0 e g', [(⟨5, [], line, col⟩ : Tk)] = ts0 ++ [e] ∧ e.kind = 5 ∧ (∀ t ∈ ts0, t.kind ≠ 5) ∧ r.length ≤ g' ∧ tokG g (([] : List UInt8) ++ 10 :: r) line col = (tokG g' r (e.line + 1) 1).map ((ts0 ++ [⟨4, [], e.line, e.col⟩]) ++ ·) := fun line col r g hg => by
    obtain ⟨g, rfl⟩ : ∃ g', g = g' + 1 := ⟨g - 1, by simp at hg; omega⟩
    exact ⟨[], ⟨5, [], line, col⟩, g, rfl, rfl, fun t ht => (by cases ht), (by simpa using hg), tokG_nl g r line col⟩
  intro f
  induction f with
  | zero =>
    intro l line col ts h hl r g hg
    obtain rfl := List.length_eq_zero_iff.1 (Nat.le_zero.1 hl)
    unfold tokG at h
    injection h with h
    rw [← h]
    exact fin line col r g hg
  | succ f ih =>
    intro l line col ts h hl r g hg
    by_cases h0 : l = []
    · unfold tokG at h
      rw [if_pos h0] at h
      injection h with h
      subst h0
      rw [← h]
      exact fin line col r g hg
    have hp := nextL_pos h0
    have hm := next_more h0 r
    unfold tokG at h
    rw [if_neg h0] at h
    obtain ⟨g, rfl⟩ : ∃ g', g = g' + 1 := ⟨g - 1, by simp at hg; omega⟩
    have hne : l ++ 10 :: r ≠ [] := by simp
    have hd1 : (l ++ 10 :: r).drop 1 = l.drop 1 ++ 10 :: r := List.drop_append_of_le_length (by omega)
    have hd : (l ++ 10 :: r).drop (nextL l).2 = l.drop (nextL l).2 ++ 10 :: r := List.drop_append_of_le_length hp.2
    have ht : (l ++ 10 :: r).take (nextL l).2 = l.take (nextL l).2 := List.take_append_of_le_length hp.2
    have hl1 : (l.drop 1 ++ 10 :: r).length ≤ g := by simp at hg ⊢; omega
    have hl2 : (l.drop (nextL l).2 ++ 10 :: r).length ≤ g := by simp at hg ⊢; omega
    have hf1 : (l.drop 1).length ≤ f := by rw [List.length_drop]; omega
    have hf2 : (l.drop (nextL l).2).length ≤ f := by rw [List.length_drop]; omega
    by_cases h1 : (nextL l).1 < 0
    · rw [if_pos h1] at h; cases h
    rw [if_neg h1] at h
    by_cases h2 : (nextL l).1 = 4
    · rw [if_pos h2, Option.map_eq_some_iff] at h
      obtain ⟨us, hu, rfl⟩ := h
      obtain ⟨ts0, e, g', rfl, e5, n5, a1, a2⟩ := ih _ _ _ us hu hf1 r g hl1
      refine ⟨⟨4, [], line, col⟩ :: ts0, e, g', rfl, e5, fun t ht => ?_, a1, ?_⟩
      · rcases List.mem_cons.1 ht with rfl | q
        · show (4 : Int) ≠ 5; decide
        · exact n5 t q
      · conv => lhs; unfold tokG
        rw [if_neg hne, hm, if_neg h1, if_pos h2, hd1, a2, Option.map_map]
        congr 1
    rw [if_neg h2] at h
    by_cases h3 : (nextL l).1 = 0
    · rw [if_pos h3] at h
      obtain ⟨ts0, e, g', rfl, e5, n5, a1, a2⟩ := ih _ _ _ ts h hf2 r g hl2
      refine ⟨ts0, e, g', rfl, e5, n5, a1, ?_⟩
      conv => lhs; unfold tokG
      rw [if_neg hne, hm, if_neg h1, if_neg h2, if_pos h3, hd, a2]
    rw [if_neg h3, Option.map_eq_some_iff] at h
    obtain ⟨us, hu, rfl⟩ := h
    obtain ⟨ts0, e, g', rfl, e5, n5, a1, a2⟩ := ih _ _ _ us hu hf2 r g hl2
    refine ⟨⟨(nextL l).1, l.take (nextL l).2, line, col⟩ :: ts0, e, g', rfl, e5, fun t ht => ?_, a1, ?_⟩
    · rcases List.mem_cons.1 ht with rfl | q
      · show (nextL l).1 ≠ 5
        have := nextL_kind l
        omega
      · exact n5 t q
    · conv => lhs; unfold tokG
      rw [if_neg hne, hm, if_neg h1, if_neg h2, if_neg h3, hd, ht, a2, Option.map_map]
      congr 1
/-! ### the reader goes on -/
/-- TS has the tokens of ts up to the n-th, which is its end; there TS has the end of a line, and no other behind it. -/
structure More (ts TS : List Tk) (n : Nat) : Prop where
  same : ∀ i, i < n → tk TS i = tk ts i
  some_ : ∀ i, i < n → (tk ts i).kind ≠ 5
  last : ∀ i, n ≤ i → (tk ts i).kind = 5
  nl : (tk TS n).kind = 4
  nx : (tk TS (n + 1)).kind ≠ 4
  len : ts.length = n + 1
  more : n + 2 ≤ TS.length
def upI (n j : Nat) : Nat := if j < n then j else n + 1
section
variable {ts TS : List Tk} {n : Nat} (h : More ts TS n)
include h
theorem More.lt {i : Nat} (hk : (tk ts i).kind ≠ 5) : i < n := by
  rcases Nat.lt_or_ge i n with q | q
  · exact q
  · exact absurd (h.last i q) hk
theorem More.num {i : Nat} {v : Int} {j : Nat} (he : numT ts i = .ok (v, j)) : numT TS i = .ok (v, j) ∧ i < j ∧ j ≤ n := by
  unfold numT at he
  split at he
  · rename_i m hm
    injection he with he
    injection he with e1 e2
    have hd : digT ts i < n := by
      refine h.lt fun q => ?_
      unfold wholeT at hm
      rw [if_neg (by rw [q]; decide)] at hm
      cases hm
    have hi : i ≤ digT ts i := by unfold digT; split <;> omega
    have hm0 : tk TS i = tk ts i := h.same i (by omega)
    have hdT : digT TS i = digT ts i := by unfold digT; rw [hm0]
    subst e1 e2
    refine ⟨?_, by omega, by omega⟩
    unfold numT
    simp only [hdT, h.same _ hd, hm, hm0]
  · cases he
theorem More.nums : ∀ (k i : Nat) {l : List Int} {j : Nat}, i ≤ n → numsT ts k i = .ok (l, j) → numsT TS k i = .ok (l, j) ∧ i ≤ j ∧ j ≤ n
  | 0, i, l, j, hi, he => by
    rw [numsT] at he
    injection he with he
    injection he with e1 e2
    subst e1 e2
    exact ⟨rfl, Nat.le_refl _, hi⟩
  | k + 1, i, l, j, hi, he => by
    rw [numsT] at he
    split at he
    · cases he
    · rename_i v j1 h1
      split at he
      · cases he
      · rename_i l2 j2 h2
        injection he with he
        injection he with e1 e2
        subst e1 e2
        obtain ⟨a1, a2, a3⟩ := h.num h1
        obtain ⟨b1, b2, b3⟩ := More.nums k j1 a3 h2
        refine ⟨?_, by omega, b3⟩
        rw [numsT]
        simp only [a1, b1]
theorem More.dims : ∀ (f i : Nat) {l : List Int} {j : Nat}, i ≤ n → n + 1 ≤ i + f → dimsT ts f i = .ok (l, j) → ∀ g, f ≤ g → dimsT TS g i = .ok (l, j) ∧ i ≤ j ∧ j ≤ n
  | 0, i, l, j, hi, hf, he, g, hg => by omega
  | f + 1, i, l, j, hi, hf, he, g, hg => by
    obtain ⟨g, rfl⟩ : ∃ g', g = g' + 1 := ⟨g - 1, by omega⟩
    rw [dimsT] at he
    split at he
    · rename_i hk
      injection he with he
      injection he with e1 e2
      subst e1 e2
      have hlt := h.lt (i := i) (by rw [hk]; decide)
      refine ⟨?_, Nat.le_refl _, hi⟩
      rw [dimsT, if_pos (by rw [h.same i hlt]; exact hk)]
    rename_i hk
    split at he
    · cases he
    · rename_i v j1 h1
      split at he
      · cases he
      · rename_i l2 j2 h2
        injection he with he
        injection he with e1 e2
        subst e1 e2
        obtain ⟨a1, a2, a3⟩ := h.num h1
        obtain ⟨b1, b2, b3⟩ := More.dims f j1 a3 (by omega) h2 g (by omega)
        refine ⟨?_, by omega, b3⟩
        rw [dimsT, if_neg (by rw [h.same i (by omega)]; exact hk)]
        simp only [a1, b1]
theorem More.name {i : Nat} {x : List UInt8} {j : Nat} (he : nameT ts i = .ok (x, j)) : nameT TS i = .ok (x, j) ∧ i ≤ j ∧ j ≤ n := by
  unfold nameT at he
  split at he
  · rename_i hk
    injection he with he
    injection he with e1 e2
    subst e1 e2
    have hlt := h.lt (i := i) (by rw [hk]; decide)
    refine ⟨?_, by omega, by omega⟩
    unfold nameT
    rw [h.same i hlt, if_pos hk]
  · cases he
theorem More.line {w : List UInt8} {i : Nat} {l : List Int} {j : Nat} (hi : i ≤ n) (he : lineT ts w i = .ok (l, j)) : lineT TS w i = .ok (l, j) ∧ i ≤ j ∧ j ≤ n := by
  unfold lineT at he
  split at he
  · cases he
  · rename_i l1 j1 h1
    obtain ⟨a1, a2, a3⟩ := h.nums _ _ hi h1
    split at he
    · rename_i hb
      split at he
      · cases he
      · rename_i l2 j2 h2
        injection he with he
        injection he with e1 e2
        subst e1 e2
        have hl := h.len
        have hm := h.more
        obtain ⟨b1, b2, b3⟩ := h.dims _ _ a3 (by omega) h2 TS.length (by omega)
        refine ⟨?_, by omega, b3⟩
        unfold lineT
        simp only [a1, if_pos hb, b1]
    · rename_i hb
      injection he with he
      injection he with e1 e2
      subst e1 e2
      refine ⟨?_, a2, a3⟩
      unfold lineT
      simp only [a1, if_neg hb]
theorem More.skip : ∀ (f i : Nat), i ≤ n → n + 1 ≤ i + f → ∀ g, f + 1 ≤ g → skipT TS g i = upI n (skipT ts f i) ∧ i ≤ skipT ts f i ∧ skipT ts f i ≤ n
  | 0, i, hi, hf, g, hg => by omega
  | f + 1, i, hi, hf, g, hg => by
    obtain ⟨g, rfl⟩ : ∃ g', g = g' + 1 := ⟨g - 1, by omega⟩
    rw [skipT, skipT]
    by_cases hk : (tk ts i).kind = 4
    · have hlt := h.lt (i := i) (by rw [hk]; decide)
      obtain ⟨a1, a2, a3⟩ := More.skip f (i + 1) (by omega) (by omega) g (by omega)
      rw [if_pos hk, if_pos (by rw [h.same i hlt]; exact hk)]
      exact ⟨a1, by omega, a3⟩
    · rw [if_neg hk]
      refine ⟨?_, Nat.le_refl _, hi⟩
      unfold upI
      by_cases hlt : i < n
      · rw [if_pos hlt, if_neg (by rw [h.same i hlt]; exact hk)]
      · obtain rfl : i = n := by omega
        obtain ⟨g, rfl⟩ : ∃ g', g = g' + 1 := ⟨g - 1, by omega⟩
        rw [if_neg hlt, if_pos h.nl, skipT, if_neg h.nx]
theorem More.end_ {i j : Nat} (he : endT ts i = .ok j) : endT TS i = .ok (upI n j) ∧ i ≤ j ∧ j ≤ n := by
  unfold endT at he
  split at he
  · rename_i hk
    injection he with he
    have hlt := h.lt (i := i) (by rw [hk]; decide)
    have hl := h.len
    have hm := h.more
    obtain ⟨a1, a2, a3⟩ := h.skip ts.length i (by omega) (by omega) TS.length (by omega)
    subst he
    refine ⟨?_, a2, a3⟩
    unfold endT
    rw [h.same i hlt, if_pos hk, a1]
  · cases he
theorem More.body {w : List UInt8} {s s' : Rd} (hi : s.i < n) (he : bodyT ts w s = .ok s') : bodyT TS w s = .ok ⟨upI n s'.i, s'.d, s'.ruled⟩ ∧ s.i < s'.i ∧ s'.i ≤ n := by
  unfold bodyT at he
  split at he
  · cases he
  · rename_i nm i h1
    have g1 : (if namedW w then nameT TS (s.i + 1) else .ok ([], s.i + 1)) = Except.ok (nm, i) ∧ s.i + 1 ≤ i ∧ i ≤ n := by
      by_cases hn : namedW w = true
      · rw [if_pos hn] at h1 ⊢
        exact h.name h1
      · rw [if_neg hn] at h1 ⊢
        refine ⟨h1, ?_⟩
        injection h1 with h1
        injection h1 with _ h1
        omega
    split at he
    · cases he
    · rename_i m j h2
      obtain ⟨b1, b2, b3⟩ := h.line g1.2.2 h2
      split at he
      · cases he
      · rename_i j' h3
        obtain ⟨c1, c2, c3⟩ := h.end_ h3
        injection he with he
        subst he
        refine ⟨?_, by dsimp only; omega, c3⟩
        unfold bodyT
        simp only [g1.1, b1, c1]
theorem More.lines : ∀ (f : Nat) (s s' : Rd), s.i ≤ n → n + 1 ≤ s.i + f → linesT ts f s = .ok s' → ∀ g, f ≤ g → ∃ k, g + 1 ≤ k + f ∧ linesT TS g ⟨upI n s.i, s.d, s.ruled⟩ = linesT TS k ⟨n + 1, s'.d, s'.ruled⟩
  | 0, s, s', hi, hf, he, g, hg => by omega
  | f + 1, s, s', hi, hf, he, g, hg => by
    rw [linesT] at he
    by_cases hk : (tk ts s.i).kind = 5
    · rw [if_pos hk] at he
      injection he with he
      subst he
      have hn : ¬ s.i < n := fun q => h.some_ _ q hk
      refine ⟨g, by omega, ?_⟩
      unfold upI
      rw [if_neg hn]
    · rw [if_neg hk] at he
      have hlt := h.lt hk
      split at he
      · cases he
      · rename_i s1 h1
        obtain ⟨g, rfl⟩ : ∃ g', g = g' + 1 := ⟨g - 1, by omega⟩
        unfold otherT at h1
        split at h1
        · rename_i hw
          obtain ⟨a1, a2, a3⟩ := h.body hlt h1
          obtain ⟨k, b1, b2⟩ := More.lines f s1 s' a3 (by omega) he g (by omega)
          refine ⟨k, by omega, ?_⟩
          have hu : upI n s.i = s.i := by unfold upI; rw [if_pos hlt]
          rw [hu]
          have ho : otherT TS ⟨s.i, s.d, s.ruled⟩ = .ok ⟨upI n s1.i, s1.d, s1.ruled⟩ := by
            unfold otherT
            rw [h.same s.i hlt]
            rw [if_pos (show wordOk (tk ts s.i) ⟨s.i, s.d, s.ruled⟩ = true from hw)]
            exact a1
          rw [linesT]
          dsimp only
          rw [h.same s.i hlt, if_neg hk, ho]
          exact b2
        · cases h1
theorem More.read {d : Det} (hr : readT ts = .ok d) {l : List Ln} (hk : ktFrom TS (n + 1) = l.flatMap lnK ++ [(5, [])]) (ho : okLs l (d, true)) (h2 : (runLs l (d, true)).2 = true) (hl : n + l.length + 1 ≤ TS.length) : readT TS = .ok (runLs l (d, true)).1 := by
  have hlen := h.len
  have hmore := h.more
  unfold readT at hr
  dsimp only at hr
  split at hr
  · rename_i hy
    have hlt := h.lt (i := skipT ts ts.length 0) (by rw [hy.1]; decide)
    obtain ⟨a1, a2, a3⟩ := h.skip ts.length 0 (Nat.zero_le _) (by omega) TS.length (by omega)
    generalize skipT ts ts.length 0 = i0 at *
    have hu : upI n i0 = i0 := by unfold upI; rw [if_pos hlt]
    rw [hu] at a1
    split at hr
    · cases hr
    · rename_i s h1
      obtain ⟨b1, b2, b3⟩ := h.body (s := ⟨i0, det0, false⟩) hlt h1
      split at hr
      · cases hr
      · rename_i s' h3
        have b2' : i0 < s.i := b2
        obtain ⟨k, c1, c2⟩ := h.lines ts.length s s' b3 (by omega) h3 TS.length (by omega)
        split at hr
        · rename_i hru
          injection hr with hr
          subst hr
          rw [hru] at c2
          obtain ⟨j, d1, _⟩ := linesT_of (ts := TS) l k ⟨n + 1, s'.d, true⟩ ho (by omega) hk
          rw [d1] at c2
          unfold readT
          dsimp only
          rw [a1, h.same i0 hlt, if_pos hy, b1]
          dsimp only
          rw [c2]
          dsimp only
          rw [h2]
          rfl
        · cases hr
  · cases hr
end
/-! ### two lines more -/
def zzB : List UInt8 := [122, 122]
def barN : List Int := [12, 1, 0, 500]
def demN : List Int := [0, -5, 0, 9, 9, 9]
def twoL : List Ln := [(zzB, barN)].map (fun b => (⟨wBar, b.1, b.2⟩ : Ln)) ++ [(wBox, demN, ([] : List (List Int)))].flatMap demL
/-- What stands behind the source. -/
def sufB : List UInt8 := [10, 98, 97, 114, 32, 122, 122, 32, 49, 50, 32, 49, 32, 48, 32, 53, 48, 48, 10, 100, 101, 109, 97, 110, 100, 32, 98, 111, 120, 32, 48, 32, 45, 53, 32, 48, 32, 57, 32, 57, 32, 57, 10]
theorem suf_lines : sufB = 10 :: twoL.flatMap lnT := by kernel_rfl
theorem twoL_ok (s : Sd) : okLs twoL s := by
  refine okLs_plain _ _ fun x hx => ?_
  have hx : x = ⟨wBar, zzB, barN⟩ ∨ x = ⟨wDemand, wBox, demN⟩ := by simpa [twoL, demL] using hx
  rcases hx with rfl | rfl
  · exact plain_bar (by decide) (by decide) (by decide)
  · exact plain_dem (by decide) (by decide) (by decide)
def moreD (d : Det) : Det := { d with bars := d.bars ++ [(zzB, barN)], dems := d.dems ++ [(wBox, demN, [])] }
theorem run_two (d : Det) : runLs twoL (d, true) = (moreD d, true) := by
  unfold twoL
  rw [runLs_app, run_bars, run_dems]
  rfl
theorem tk_left {a b : List Tk} {i : Nat} (hi : i < a.length) : tk (a ++ b) i = a[i] := by simp [tk, List.getD, List.getElem?_append_left hi, hi]
/-- A source with two lines more. -/
theorem read_more {s : List UInt8} {d : Det} {p : Int × Int} (hl : s.length ≤ 2000) (h : readS s = (d, p, 0)) : readS (s ++ sufB) = (moreD d, (0, 0), 0) := by
  have h0 : (tokS s).2.2 = 0 := by
    by_cases q : (tokS s).2.2 = 0
    · exact q
    · unfold readS at h
      rw [if_pos q] at h
      exact absurd (congrArg (fun x => x.2.2) h) q
  obtain ⟨hE, hpos, -, hG⟩ := tokS_ends h0
  have hr : readT (tokS s).1 = .ok d := by
    unfold readS at h
    rw [if_neg (by rw [h0]; decide)] at h
    split at h
    · rename_i d' hd
      injection h with h _
      rw [hd, h]
    · injection h with _ h
      injection h with _ h
      exact absurd (show (7 : Int) = 0 from h) (by decide)
  generalize (tokS s).1 = ts at *
  obtain ⟨ts0, e, g', rfl, e5, n5, a1, a2⟩ := tokG_more s.length s 1 1 ts hG (Nat.le_refl _) (twoL.flatMap lnT) (s ++ sufB).length (by rw [← suf_lines]; exact Nat.le_refl _)
  obtain ⟨us, u1, u2⟩ := lines_give twoL (okLs_good _ (d, true) (twoL_ok _)) g' (e.line + 1) 1 a1
  rw [← suf_lines, u1] at a2
  obtain ⟨T, hT⟩ : ∃ T, (ts0 ++ [⟨4, [], e.line, e.col⟩]) ++ us = T := ⟨_, rfl⟩
  have a3 : tokG (s ++ sufB).length (s ++ sufB) 1 1 = some T := by rw [a2, ← hT]; rfl
  have hul : us.length = 18 := by
    have := congrArg List.length u2
    rw [List.length_map] at this
    rw [this]
    decide
  have hlenT : T.length = ts0.length + 19 := by rw [← hT]; simp [hul]
  have hus : T = ts0 ++ (⟨4, [], e.line, e.col⟩ :: us) := by rw [← hT]; simp
  have htk0 : ∀ i, i < ts0.length → ∀ (b : List Tk), tk (ts0 ++ b) i ∈ ts0 := fun i hi b => by rw [tk_left hi]; exact List.getElem_mem hi
  have hM : More (ts0 ++ [e]) T ts0.length := {
    same := fun i hi => by rw [hus, tk_left hi, tk_left hi]
    some_ := fun i hi => n5 _ (htk0 i hi _)
    last := fun i hi => by
      rcases Nat.lt_or_ge ts0.length i with q | q
      · have e1 : tk (ts0 ++ [e]) i = ⟨5, [], 0, 0⟩ := by simp [tk, List.getD, List.getElem?_eq_none (show (ts0 ++ [e]).length ≤ i by simp; omega)]
        rw [e1]
      · obtain rfl : i = ts0.length := by omega
        rw [tk_last, e5]
    nl := by
      rw [hus]
      simp [tk, List.getD]
    nx := by
      have hk := u2
      have e1 : tk T (ts0.length + 1) = tk us 0 := by
        rw [hus]
        unfold tk List.getD
        rw [List.getElem?_append_right (by omega), show ts0.length + 1 - ts0.length = 1 by omega, List.getElem?_cons_succ]
      rw [e1]
      cases us with
      | nil => cases hul
      | cons u us =>
        rw [List.map_cons] at hk
        injection hk with hk _
        have : kt u = (1, wBar) := hk
        show u.kind ≠ 4
        rw [show u.kind = 1 from congrArg Prod.fst this]
        decide
    len := by simp
    more := by omega }
  have hkt : ktFrom T (ts0.length + 1) = twoL.flatMap lnK ++ [(5, [])] := by
    unfold ktFrom
    rw [hus, ← u2]
    simp
  have hR := hM.read hr hkt (twoL_ok _) (by rw [run_two]) (by rw [hlenT]; show ts0.length + 2 + 1 ≤ _; omega)
  rw [run_two] at hR
  exact readS_of (tokS_of (by rw [List.length_append]; show s.length + 43 ≤ _; omega) a3) hR

end Go.Proofs.YtccakklnbhcbdaaGreatDoor
