/- Plain: a source with more blanks, comments, and empty lines is read as it was. -/
import Derived.Test.YtccakklnbhcbdaaGreatDoorQh
import Derived.Lib.Replace
import Derived.Lib.IndexBytes
set_option linter.unusedVariables false
namespace Go.Proofs.YtccakklnbhcbdaaGreatDoor

/-- Each newline becomes F and two newlines. -/
def repB (F l : List UInt8) : List UInt8 := l.flatMap fun b => if b = 10 then F ++ [10, 10] else [b]
theorem first_nl : ∀ l : List UInt8, noB 10 l ∨ ∃ a r, l = a ++ 10 :: r ∧ noB 10 a
  | [] => .inl (noB_nil _)
  | c :: l => by
    by_cases h : c = 10
    · exact .inr ⟨[], l, by rw [h]; rfl, noB_nil _⟩
    · rcases first_nl l with q | ⟨a, r, rfl, q⟩
      · exact .inl (noB_cons.2 ⟨h, q⟩)
      · exact .inr ⟨c :: a, r, rfl, noB_cons.2 ⟨h, q⟩⟩
theorem rep_no (N : List UInt8) : ∀ l : List UInt8, noB 10 l → (l.flatMap fun b => if b = 10 then N else [b]) = l
  | [], _ => rfl
  | c :: l, h => by
    rw [noB_cons] at h
    rw [List.flatMap_cons, rep_no N l h.2, if_neg h.1]
    rfl
theorem repl_k (N : List UInt8) : ∀ (k : Nat) (l : List UInt8), l.count 10 ≤ k → Lib.replaceK [10] N k l = l.flatMap fun b => if b = 10 then N else [b]
  | 0, l, h => by
    rw [rep_no N l fun b hb e => by
      have := List.count_pos_iff.2 (e ▸ hb)
      omega]
    rfl
  | k + 1, l, h => by
    rcases first_nl l with q | ⟨a, r, rfl, q⟩
    · have hi : Lib.index l [10] = -1 := by rw [Lib.index_one]; exact idxs_no 10 l q
      rw [Lib.replaceK, if_pos (by rw [hi]; rfl), rep_no N l q]
    · have hi : Lib.index (a ++ 10 :: r) [10] = (a.length : Int) := by rw [Lib.index_one]; exact idxs_in 10 a r q
      have hc : r.count 10 ≤ k := by
        rw [List.count_append, List.count_cons] at h
        simp at h
        omega
      rw [Lib.replaceK_hit [10] N k _ a.length hi, List.flatMap_append, List.flatMap_cons, rep_no N a q, if_pos rfl]
      have e1 : (a ++ 10 :: r).take a.length = a := List.take_left
      have e2 : (a ++ 10 :: r).drop (a.length + [(10 : UInt8)].length) = r := by
        rw [show a.length + [(10 : UInt8)].length = a.length + 1 from rfl, ← List.drop_drop, List.drop_left]
        rfl
      rw [e1, e2, repl_k N k r hc, List.append_assoc]
theorem repl_all (F l : List UInt8) : Lib.replaceAll l [10] (F ++ [10, 10]) = repB F l := by
  have hne : ([10] == F ++ [(10 : UInt8), 10]) = false := by
    rw [beq_eq_false_iff_ne]
    intro e
    have := congrArg List.length e
    simp at this
  unfold Lib.replaceAll Lib.replace repB
  rw [hne]
  refine (if_neg (by decide)).trans ?_
  refine repl_k _ _ _ ?_
  unfold Lib.replaceNum
  rw [if_pos (.inl (by decide)), Lib.count_one]
  exact Nat.le_refl _
/-- What is put ahead of the newlines. -/
structure Fil (F : List UInt8) : Prop where
  head : ∃ f r, F = f :: r ∧ isWrd f = false ∧ isDig f = false ∧ f ≠ 46 ∧ f.toNat ≠ 61
  skip : ∀ (x : List UInt8) (g : Nat) (line col : Int), (F ++ 10 :: x).length ≤ g → ∃ g' col', (10 :: x).length ≤ g' ∧ tokG g (F ++ 10 :: x) line col = tokG g' (10 :: x) line col'
theorem tokG_tab (f : Nat) (r : List UInt8) (line col : Int) : tokG (f + 1) (9 :: r) line col = tokG f r line (col + 1) := by
  have hn : nextL (9 :: r) = (0, 1) := by
    unfold nextL
    dsimp only [List.headD_cons]
    rw [if_pos (by decide)]
  conv => lhs; unfold tokG
  rw [if_neg (by simp), hn]
  simp only [List.drop_succ_cons, List.drop_zero]
  rw [if_neg (by decide), if_neg (by decide)]
  rfl
theorem tokG_note {c : List UInt8} (hc : noB 10 c) (f : Nat) (x : List UInt8) (line col : Int) : ∃ col', tokG (f + 1) (35 :: (c ++ 10 :: x)) line col = tokG f (10 :: x) line col' := by
  have hall : (35 :: c).all (fun c => decide (c.toNat ≠ 10)) = true := by
    rw [List.all_eq_true]
    intro b hb
    rw [decide_eq_true_eq]
    intro e
    rcases List.mem_cons.1 hb with rfl | q
    · exact absurd e (by decide)
    · exact hc b q (UInt8.toNat_inj.1 e)
  have hr := runL_all hall 10 (by decide) x
  rw [List.cons_append] at hr
  have hn : nextL (35 :: (c ++ 10 :: x)) = (0, c.length + 1) := by
    unfold nextL
    dsimp only [List.headD_cons]
    rw [if_neg (by decide), if_neg (by decide), if_pos (by decide), hr]
    rfl
  refine ⟨col + ((c.length + 1 : Nat) : Int), ?_⟩
  conv => lhs; unfold tokG
  rw [if_neg (by simp), hn]
  simp only
  rw [if_neg (by decide), if_neg (by decide), if_pos trivial]
  have hd : (35 :: (c ++ 10 :: x)).drop (c.length + 1) = 10 :: x := by
    rw [List.drop_succ_cons, List.drop_left]
  rw [hd]
theorem fil_sp : Fil [32] := ⟨⟨32, [], rfl, by decide, by decide, by decide, by decide⟩, fun x g line col hg => by
  obtain ⟨g, rfl⟩ : ∃ g', g = g' + 1 := ⟨g - 1, by simp at hg; omega⟩
  exact ⟨g, col + 1, by simpa using hg, tokG_sp g _ line col⟩⟩
theorem fil_tab : Fil [9] := ⟨⟨9, [], rfl, by decide, by decide, by decide, by decide⟩, fun x g line col hg => by
  obtain ⟨g, rfl⟩ : ∃ g', g = g' + 1 := ⟨g - 1, by simp at hg; omega⟩
  exact ⟨g, col + 1, by simpa using hg, tokG_tab g _ line col⟩⟩
theorem fil_note {c : List UInt8} (hc : noB 10 c) : Fil (35 :: c) := ⟨⟨35, c, rfl, by decide, by decide, by decide, by decide⟩, fun x g line col hg => by
  obtain ⟨g, rfl⟩ : ∃ g', g = g' + 1 := ⟨g - 1, by simp at hg; omega⟩
  obtain ⟨col', e⟩ := tokG_note hc g x line col
  exact ⟨g, col', by simp at hg ⊢; omega, e⟩⟩
theorem fil_more {F : List UInt8} (h : Fil F) : Fil (32 :: F) := ⟨⟨32, F, rfl, by decide, by decide, by decide, by decide⟩, fun x g line col hg => by
  obtain ⟨g, rfl⟩ : ∃ g', g = g' + 1 := ⟨g - 1, by simp at hg; omega⟩
  obtain ⟨g', col', h1, h2⟩ := h.skip x g line (col + 1) (by simpa using hg)
  exact ⟨g', col', h1, by rw [List.cons_append, tokG_sp, h2]⟩⟩
section
variable {F : List UInt8} (hF : Fil F)
theorem rep_nil : repB F [] = [] := rfl
theorem rep_nl (l : List UInt8) : repB F (10 :: l) = F ++ 10 :: 10 :: repB F l := by
  unfold repB
  rw [List.flatMap_cons, if_pos rfl]
  simp
theorem rep_cons {c : UInt8} (h : c ≠ 10) (l : List UInt8) : repB F (c :: l) = c :: repB F l := by
  unfold repB
  rw [List.flatMap_cons, if_neg h]
  rfl
theorem rep_app (a l : List UInt8) : repB F (a ++ l) = repB F a ++ repB F l := List.flatMap_append ..
theorem rep_take {l : List UInt8} {k : Nat} (h : noB 10 (l.take k)) : repB F l = l.take k ++ repB F (l.drop k) := by
  conv => lhs; rw [← List.take_append_drop k l]
  rw [rep_app]
  congr 1
  exact rep_no _ _ h
include hF
theorem rep_head (l : List UInt8) : (repB F l = [] ∧ l = []) ∨ (∃ f x, repB F l = f :: x ∧ isWrd f = false ∧ isDig f = false ∧ f ≠ 46 ∧ f.toNat ≠ 61 ∧ ∃ r, l = 10 :: r) ∨ ∃ c r, c ≠ 10 ∧ l = c :: r ∧ repB F l = c :: repB F r := by
  cases l with
  | nil => exact .inl ⟨rfl, rfl⟩
  | cons c l =>
    by_cases h : c = 10
    · subst h
      obtain ⟨f, r, e, h1, h2, h3, h4⟩ := hF.head
      exact .inr (.inl ⟨f, r ++ 10 :: 10 :: repB F l, by rw [rep_nl, e]; rfl, h1, h2, h3, h4, l, rfl⟩)
    · exact .inr (.inr ⟨c, l, h, rfl, rep_cons h l⟩)
theorem runL_rep {p : UInt8 → Bool} (hp : p 10 = false) (hf : ∀ f r, F = f :: r → p f = false) : ∀ l : List UInt8, runL p (repB F l) = runL p l
  | [] => rfl
  | c :: l => by
    by_cases h : c = 10
    · subst h
      obtain ⟨f, r, e, _⟩ := hF.head
      rw [rep_nl, runL_cons, if_neg (by rw [hp]; decide)]
      rw [e, List.cons_append, runL_cons, if_neg (by rw [hf f r e]; decide)]
    · rw [rep_cons h, runL_cons, runL_cons, runL_rep hp hf l]
omit hF in
theorem numL_cases (l : List UInt8) : (∃ x r, l.drop (runL isDig l) = 46 :: x :: r ∧ isDig x = true ∧ numL l = runL isDig l + 1 + runL isDig (x :: r)) ∨ ((∀ x r, l.drop (runL isDig l) = 46 :: x :: r → isDig x = false) ∧ numL l = runL isDig l) := by
  by_cases h : (decide (runA isDig l 0 + 1 < l.length) && decide ((l.getD (runA isDig l 0) 0).toNat = 46) && isDig (l.getD (runA isDig l 0 + 1) 0)) = true
  · have e0 : numL l = runA isDig l (runA isDig l 0 + 1) := by unfold numL numA; rw [if_pos h]
    simp only [Bool.and_eq_true, decide_eq_true_eq] at h
    obtain ⟨⟨h1, h2⟩, h3⟩ := h
    rw [runA_zero] at e0 h1 h2 h3
    generalize runL isDig l = k at *
    left
    have hdot : l[k]'(by omega) = 46 := by
      have e : l.getD k 0 = l[k]'(by omega) := by simp [List.getD, show k < l.length by omega]
      rw [e] at h2
      exact UInt8.toNat_inj.1 h2
    have e2 : l.getD (k + 1) 0 = l[k + 1]'h1 := by simp [List.getD, h1]
    rw [e2] at h3
    have hd : l.drop (k + 1) = l[k + 1]'h1 :: l.drop (k + 2) := List.drop_eq_getElem_cons h1
    refine ⟨l[k + 1]'h1, l.drop (k + 2), ?_, h3, ?_⟩
    · rw [List.drop_eq_getElem_cons (show k < l.length by omega), hdot, hd]
    · rw [e0, ← hd]
      rfl
  · have e0 : numL l = runL isDig l := by unfold numL numA; rw [if_neg h, runA_zero]
    refine .inr ⟨fun x r hd => ?_, e0⟩
    rw [runA_zero] at h
    generalize runL isDig l = k at *
    have hlt : k + 1 < l.length := by
      have := congrArg List.length hd
      rw [List.length_drop] at this
      simp at this
      omega
    have h1 : l[k]? = some 46 := by
      have := congrArg (fun y : List UInt8 => y[0]?) hd
      simpa using this
    have h2 : l[k + 1]? = some x := by
      have := congrArg (fun y : List UInt8 => y[1]?) hd
      simpa using this
    cases hx : isDig x with
    | false => rfl
    | true =>
      exfalso
      have h3 : l[k + 1]'hlt = x := by
        rw [List.getElem?_eq_getElem hlt] at h2
        injection h2
      apply h
      simp [List.getD, h1, hlt, h3, hx]
theorem numL_rep (l : List UInt8) : numL (repB F l) = numL l := by
  have hd : ∀ f r, F = f :: r → isDig f = false := fun f r e => by
    obtain ⟨f', r', e', _, h2, _⟩ := hF.head
    rw [e] at e'
    injection e' with e1 _
    rw [e1]; exact h2
  have hk := runL_rep hF (p := isDig) (by decide) hd l
  have hno : noB 10 (l.take (runL isDig l)) := dig_ne (all_run isDig l)
  have hlen := len_run isDig l
  have hsp := rep_take (F := F) hno
  have hdr : (repB F l).drop (runL isDig (repB F l)) = repB F (l.drop (runL isDig l)) := by
    rw [hk, hsp, List.drop_left' hlen]
  rcases numL_cases (repB F l) with ⟨x, r, h1, h2, h3⟩ | ⟨h1, h3⟩
  · rw [hdr] at h1
    rw [hk] at h3
    rcases rep_head hF (l.drop (runL isDig l)) with ⟨q, _⟩ | ⟨f, y, q, _, _, q3, _⟩ | ⟨c, y, qc, q1, q2⟩
    · rw [q] at h1; cases h1
    · rw [q] at h1
      injection h1 with h1 _
      exact absurd h1 q3
    · rw [q2] at h1
      injection h1 with h1 h4
      subst h1
      rcases rep_head hF y with ⟨q, _⟩ | ⟨f, z, q, _, q4, _⟩ | ⟨c, z, qc2, q3, q4⟩
      · rw [q] at h4; cases h4
      · rw [q] at h4
        injection h4 with h4 _
        rw [h4, h2] at q4
        cases q4
      · rw [q4] at h4
        injection h4 with h4 h5
        subst h4
        rcases numL_cases l with ⟨x', r', g1, g2, g3⟩ | ⟨g1, g3⟩
        · rw [q1, q3] at g1
          injection g1 with _ g1
          injection g1 with g1 g4
          subst g1 g4
          rw [h3, g3, ← h5, ← rep_cons qc2, runL_rep hF (by decide) hd]
        · have := g1 c z (by rw [q1, q3])
          rw [h2] at this
          cases this
  · rw [hk] at h3
    rw [hdr] at h1
    rcases numL_cases l with ⟨x', r', g1, g2, g3⟩ | ⟨g1, g3⟩
    · exfalso
      have hx : x' ≠ 10 := by
        rintro rfl
        exact absurd g2 (by decide)
      have := h1 x' (repB F r') (by rw [g1, rep_cons (by decide), rep_cons hx])
      rw [g2] at this
      cases this
    · rw [h3, g3]
theorem nextL_rep {c : UInt8} (h1 : c ≠ 10) (h35 : c ≠ 35) (t : List UInt8) : nextL (repB F (c :: t)) = nextL (c :: t) := by
  have hw : ∀ f r, F = f :: r → isWrd f = false := fun f r e => by
    obtain ⟨f', r', e', h2, _⟩ := hF.head
    rw [e] at e'
    injection e' with e1 _
    rw [e1]; exact h2
  have hr := runL_rep hF (p := isWrd) (by decide) hw (c :: t)
  have hn := numL_rep hF (c :: t)
  rw [rep_cons h1] at hr hn ⊢
  have c2 : ¬ c.toNat = 10 := fun q => h1 (UInt8.toNat_inj.1 q)
  have c3 : ¬ c.toNat = 35 := fun q => h35 (UInt8.toNat_inj.1 q)
  by_cases c1 : c.toNat = 32 ∨ c.toNat = 9
  · have e : ∀ x, nextL (c :: x) = (0, 1) := fun x => by unfold nextL; dsimp only [List.headD_cons]; rw [if_pos c1]
    rw [e, e]
  by_cases c4 : isLet c = true
  · rw [nextL_name c1 c2 c3 c4, nextL_name c1 c2 c3 c4, hr]
  by_cases c5 : isDig c = true
  · rw [nextL_num c1 c2 c3 c4 c5, nextL_num c1 c2 c3 c4 c5, hn]
  · have e : symL (c :: repB F t) = symL (c :: t) := by
      rw [symL_cons, symL_cons]
      rcases rep_head hF t with ⟨q, rfl⟩ | ⟨f, y, q, _, _, _, q4, r, rfl⟩ | ⟨x, y, qc, rfl, q2⟩
      · rw [q]
      · have e1 : decide (((repB F (10 :: r)).headD 0).toNat = 61) = false := by rw [q]; exact decide_eq_false q4
        have e2 : decide ((((10 : UInt8) :: r).headD 0).toNat = 61) = false := by rw [List.headD_cons]; decide
        rw [e1, e2]
      · rw [q2]
        rfl
    rw [nextL_sym c1 c2 c3 c4 c5, nextL_sym c1 c2 c3 c4 c5, e]
end
/-- The end of a line, twice. -/
def dblK (k : KT) : List KT := if k.1 = 4 then [k, k] else [k]
theorem tok_rep {F : List UInt8} (hF : Fil F) : ∀ (f : Nat) (l : List UInt8) (line col : Int), noB 35 l → l.length ≤ f → ∀ (g : Nat) (line' col' : Int), (repB F l).length ≤ g →
    (∃ ts TS, tokG f l line col = some ts ∧ tokG g (repB F l) line' col' = some TS ∧ TS.map kt = (ts.map kt).flatMap dblK) ∨ (tokG f l line col = none ∧ tokG g (repB F l) line' col' = none) := by
  have hz : ∀ (g : Nat) (line col : Int), tokG g [] line col = some [⟨5, [], line, col⟩] := fun g line col => by
    cases g with
    | zero => rfl
    | succ g => unfold tokG; rw [if_pos rfl]
  intro f
  induction f with
  | zero =>
    intro l line col h35 hl g line' col' hg
    obtain rfl := List.length_eq_zero_iff.1 (Nat.le_zero.1 hl)
    exact .inl ⟨_, _, hz _ _ _, by rw [rep_nil]; exact hz _ _ _, rfl⟩
  | succ f ih =>
    intro l line col h35 hl g line' col' hg
    cases l with
    | nil => exact .inl ⟨_, _, hz _ _ _, by rw [rep_nil]; exact hz _ _ _, rfl⟩
    | cons c t =>
      rw [noB_cons] at h35
      by_cases h1 : c = 10
      · subst h1
        rw [rep_nl] at hg ⊢
        obtain ⟨g1, col1, a1, a2⟩ := hF.skip _ g line' col' hg
        obtain ⟨g2, rfl⟩ : ∃ g2, g1 = g2 + 2 := ⟨g1 - 2, by simp at a1; omega⟩
        rw [a2, tokG_nl, tokG_nl, tokG_nl]
        rcases ih t (line + 1) 1 h35.2 (by simp at hl; omega) g2 (line' + 1 + 1) 1 (by simp at a1; omega) with ⟨ts, TS, q1, q2, q3⟩ | ⟨q1, q2⟩
        · refine .inl ⟨⟨4, [], line, col⟩ :: ts, ⟨4, [], line', col1⟩ :: ⟨4, [], line' + 1, 1⟩ :: TS, by rw [q1]; rfl, by rw [q2]; rfl, ?_⟩
          rw [List.map_cons, List.map_cons, List.map_cons, List.flatMap_cons, q3]
          rfl
        · exact .inr ⟨by rw [q1]; rfl, by rw [q2]; rfl⟩
      · have h0 : c :: t ≠ [] := by simp
        have hn := nextL_rep hF h1 h35.1 t
        have hp := nextL_pos h0
        have h0' : repB F (c :: t) ≠ [] := by rw [rep_cons h1]; simp
        have hk4 : ¬ (nextL (c :: t)).1 = 4 := fun q => by
          obtain ⟨r, e⟩ := next_four h0 q
          injection e with e _
          exact h1 e
        obtain ⟨g, rfl⟩ : ∃ g', g = g' + 1 := ⟨g - 1, by rw [rep_cons h1] at hg; simp at hg; omega⟩
        by_cases hneg : (nextL (c :: t)).1 < 0
        · refine .inr ⟨?_, ?_⟩
          · unfold tokG
            rw [if_neg h0, if_pos hneg]
          · unfold tokG
            rw [if_neg h0', hn, if_pos hneg]
        have hno : noB 10 ((c :: t).take (nextL (c :: t)).2) ∧ ((c :: t).take (nextL (c :: t)).2).length = (nextL (c :: t)).2 := by
          by_cases h3 : (nextL (c :: t)).1 = 0
          · exact ⟨(next_blank h0 h3).2, (next_blank h0 h3).1⟩
          · have hk : 1 ≤ (nextL (c :: t)).1 ∧ (nextL (c :: t)).1 ≤ 3 := by have := nextL_kind (c :: t); omega
            obtain ⟨_, b1, b2⟩ := good_tok h0 hk 0 0
            exact ⟨b2, b1⟩
        have hsp := rep_take (F := F) hno.1
        have hd : (repB F (c :: t)).drop (nextL (c :: t)).2 = repB F ((c :: t).drop (nextL (c :: t)).2) := by rw [hsp, List.drop_left' hno.2]
        have ht : (repB F (c :: t)).take (nextL (c :: t)).2 = (c :: t).take (nextL (c :: t)).2 := by rw [hsp, List.take_left' hno.2]
        have hl2 : (repB F ((c :: t).drop (nextL (c :: t)).2)).length ≤ g := by
          rw [hsp, List.length_append, hno.2] at hg
          omega
        have h352 : noB 35 ((c :: t).drop (nextL (c :: t)).2) := fun b hb => (noB_cons.2 h35) b (List.mem_of_mem_drop hb)
        have hf2 : ((c :: t).drop (nextL (c :: t)).2).length ≤ f := by rw [List.length_drop]; omega
        by_cases h3 : (nextL (c :: t)).1 = 0
        · have e1 : tokG (f + 1) (c :: t) line col = tokG f ((c :: t).drop (nextL (c :: t)).2) line (col + (nextL (c :: t)).2) := by
            conv => lhs; unfold tokG
            rw [if_neg h0, if_neg hneg, if_neg hk4, if_pos h3]
          have e2 : tokG (g + 1) (repB F (c :: t)) line' col' = tokG g (repB F ((c :: t).drop (nextL (c :: t)).2)) line' (col' + (nextL (c :: t)).2) := by
            conv => lhs; unfold tokG
            rw [if_neg h0', hn, if_neg hneg, if_neg hk4, if_pos h3, hd]
          rw [e1, e2]
          exact ih _ _ _ h352 hf2 g _ _ hl2
        · have e1 : tokG (f + 1) (c :: t) line col = (tokG f ((c :: t).drop (nextL (c :: t)).2) line (col + (nextL (c :: t)).2)).map (⟨(nextL (c :: t)).1, (c :: t).take (nextL (c :: t)).2, line, col⟩ :: ·) := by
            conv => lhs; unfold tokG
            rw [if_neg h0, if_neg hneg, if_neg hk4, if_neg h3]
          have e2 : tokG (g + 1) (repB F (c :: t)) line' col' = (tokG g (repB F ((c :: t).drop (nextL (c :: t)).2)) line' (col' + (nextL (c :: t)).2)).map (⟨(nextL (c :: t)).1, (c :: t).take (nextL (c :: t)).2, line', col'⟩ :: ·) := by
            conv => lhs; unfold tokG
            rw [if_neg h0', hn, if_neg hneg, if_neg hk4, if_neg h3, hd, ht]
          rw [e1, e2]
          rcases ih _ _ (col + (nextL (c :: t)).2) h352 hf2 g line' (col' + (nextL (c :: t)).2) hl2 with ⟨ts, TS, q1, q2, q3⟩ | ⟨q1, q2⟩
          · refine .inl ⟨_, _, by rw [q1]; rfl, by rw [q2]; rfl, ?_⟩
            rw [List.map_cons, List.map_cons, List.flatMap_cons, q3]
            have : dblK (kt ⟨(nextL (c :: t)).1, (c :: t).take (nextL (c :: t)).2, line, col⟩) = [kt ⟨(nextL (c :: t)).1, (c :: t).take (nextL (c :: t)).2, line', col'⟩] := if_neg hk4
            rw [this]
            rfl
          · exact .inr ⟨by rw [q1]; rfl, by rw [q2]; rfl⟩
/-! ### the reader does not see it -/
section
variable (ts TS : List Tk)
/-- Place i of ts, place j of TS: what follows is the same, but for ends of lines. -/
def Cor (i j : Nat) : Prop := i < ts.length ∧ ktFrom TS j = (ktFrom ts i).flatMap dblK
def SimP {α : Type} : Except Nat (α × Nat) → Except Nat (α × Nat) → Prop
  | .ok (a, i), .ok (b, j) => a = b ∧ Cor ts TS i j
  | .error _, .error _ => True
  | _, _ => False
def SimR : Except Nat Rd → Except Nat Rd → Prop
  | .ok s, .ok t => s.d = t.d ∧ s.ruled = t.ruled ∧ Cor ts TS s.i t.i
  | .error _, .error _ => True
  | _, _ => False
end
section
variable {ts TS : List Tk} (hE : Ends ts)
theorem kt_cons {ts : List Tk} {i : Nat} (h : i < ts.length) : ktFrom ts i = kt (tk ts i) :: ktFrom ts (i + 1) := by
  unfold ktFrom
  rw [List.drop_eq_getElem_cons h, List.map_cons]
  have e : tk ts i = ts[i] := by simp [tk, List.getD, h]
  rw [e]
theorem Cor.tok {i j : Nat} (h : Cor ts TS i j) : (tk TS j).kind = (tk ts i).kind ∧ (tk TS j).text = (tk ts i).text ∧ j < TS.length := by
  obtain ⟨h1, h2⟩ := h
  rw [kt_cons h1, List.flatMap_cons] at h2
  unfold dblK at h2
  split at h2
  · obtain ⟨a, b, _, d⟩ := kt_head (k := (tk ts i).kind) (x := (tk ts i).text) h2
    exact ⟨a, b, d⟩
  · obtain ⟨a, b, _, d⟩ := kt_head (k := (tk ts i).kind) (x := (tk ts i).text) h2
    exact ⟨a, b, d⟩
include hE
theorem Cor.one {i j : Nat} (h : Cor ts TS i j) (hk : (tk ts i).kind ≠ 4) (h5 : (tk ts i).kind ≠ 5) : Cor ts TS (i + 1) (j + 1) := by
  obtain ⟨h1, h2⟩ := h
  rw [kt_cons h1, List.flatMap_cons] at h2
  unfold dblK at h2
  rw [if_neg (show ¬ (kt (tk ts i)).1 = 4 from hk)] at h2
  obtain ⟨_, _, c, _⟩ := kt_head (k := (tk ts i).kind) (x := (tk ts i).text) h2
  exact ⟨hE.more i h1 h5, c⟩
theorem Cor.nl {i j : Nat} (h : Cor ts TS i j) (hk : (tk ts i).kind = 4) : (tk TS (j + 1)).kind = 4 ∧ j + 1 < TS.length ∧ Cor ts TS (i + 1) (j + 2) := by
  obtain ⟨h1, h2⟩ := h
  rw [kt_cons h1, List.flatMap_cons] at h2
  unfold dblK at h2
  rw [if_pos (show (kt (tk ts i)).1 = 4 from hk)] at h2
  obtain ⟨_, _, c, _⟩ := kt_head (k := (tk ts i).kind) (x := (tk ts i).text) h2
  obtain ⟨a, _, c2, d⟩ := kt_head (k := (tk ts i).kind) (x := (tk ts i).text) c
  exact ⟨a.trans hk, d, hE.more i h1 (by rw [hk]; decide), c2⟩
theorem num_sim {i j : Nat} (h : Cor ts TS i j) : SimP ts TS (numT ts i) (numT TS j) := by
  obtain ⟨a1, a2, _⟩ := h.tok
  have hm : minusT (tk TS j) = minusT (tk ts i) := by unfold minusT; rw [a1, a2]
  have key : ∀ {u v : Nat}, Cor ts TS u v → digT ts i = u → digT TS j = v → SimP ts TS (numT ts i) (numT TS j) := by
    intro u v hc hu hv
    obtain ⟨b1, b2, _⟩ := hc.tok
    have hw : wholeT (tk TS v) = wholeT (tk ts u) := by unfold wholeT; rw [b1, b2]
    unfold numT
    rw [hu, hv, hw, hm]
    cases hq : wholeT (tk ts u) with
    | none => exact trivial
    | some n =>
      have h2 : (tk ts u).kind = 2 := by
        unfold wholeT at hq
        split at hq
        · assumption
        · cases hq
      exact ⟨rfl, Cor.one hE hc (by rw [h2]; decide) (by rw [h2]; decide)⟩
  by_cases hs : minusT (tk ts i) = true
  · have h3 : (tk ts i).kind = 3 := by
      unfold minusT at hs
      simp only [Bool.and_eq_true, decide_eq_true_eq] at hs
      exact hs.1
    exact key (Cor.one hE h (by rw [h3]; decide) (by rw [h3]; decide)) (by unfold digT; rw [if_pos hs]) (by unfold digT; rw [hm, if_pos hs])
  · exact key h (by unfold digT; rw [if_neg hs]) (by unfold digT; rw [hm, if_neg hs])
theorem nums_sim : ∀ (k i j : Nat), Cor ts TS i j → SimP ts TS (numsT ts k i) (numsT TS k j)
  | 0, i, j, h => ⟨rfl, h⟩
  | k + 1, i, j, h => by
    have h1 := num_sim hE h
    rw [numsT, numsT]
    cases ha : numT ts i with
    | error e =>
      cases hb : numT TS j with
      | error e2 => exact trivial
      | ok y => rw [ha, hb] at h1; exact h1.elim
    | ok x =>
      cases hb : numT TS j with
      | error e2 => rw [ha, hb] at h1; exact h1.elim
      | ok y =>
        rw [ha, hb] at h1
        obtain ⟨x, u⟩ := x
        obtain ⟨y, v⟩ := y
        obtain ⟨rfl, h2⟩ := h1
        have h3 := nums_sim k u v h2
        dsimp only
        cases hc : numsT ts k u with
        | error e =>
          cases hd : numsT TS k v with
          | error e2 => exact trivial
          | ok y => rw [hc, hd] at h3; exact h3.elim
        | ok a =>
          cases hd : numsT TS k v with
          | error e2 => rw [hc, hd] at h3; exact h3.elim
          | ok b =>
            rw [hc, hd] at h3
            obtain ⟨a, p⟩ := a
            obtain ⟨b, q⟩ := b
            obtain ⟨rfl, h4⟩ := h3
            exact ⟨rfl, h4⟩
theorem dims_sim : ∀ (f g i j : Nat), Cor ts TS i j → ts.length ≤ i + f → TS.length ≤ j + g → SimP ts TS (dimsT ts f i) (dimsT TS g j)
  | 0, g, i, j, h, hf, hg => by have := h.1; omega
  | f + 1, 0, i, j, h, hf, hg => by have := h.tok.2.2; omega
  | f + 1, g + 1, i, j, h, hf, hg => by
    have hk := h.tok.1
    rw [dimsT, dimsT]
    by_cases h4 : (tk ts i).kind = 4
    · rw [if_pos h4, if_pos (hk.trans h4)]
      exact ⟨rfl, h⟩
    · rw [if_neg h4, if_neg (by rw [hk]; exact h4)]
      have h1 := num_sim hE h
      cases ha : numT ts i with
      | error e =>
        cases hb : numT TS j with
        | error e2 => exact trivial
        | ok y => rw [ha, hb] at h1; exact h1.elim
      | ok x =>
        cases hb : numT TS j with
        | error e2 => rw [ha, hb] at h1; exact h1.elim
        | ok y =>
          rw [ha, hb] at h1
          obtain ⟨x, u⟩ := x
          obtain ⟨y, v⟩ := y
          obtain ⟨rfl, h2⟩ := h1
          have hu := num_up ha
          have hv := num_up hb
          have h3 := dims_sim f g u v h2 (by omega) (by omega)
          dsimp only
          cases hc : dimsT ts f u with
          | error e =>
            cases hd : dimsT TS g v with
            | error e2 => exact trivial
            | ok y => rw [hc, hd] at h3; exact h3.elim
          | ok a =>
            cases hd : dimsT TS g v with
            | error e2 => rw [hc, hd] at h3; exact h3.elim
            | ok b =>
              rw [hc, hd] at h3
              obtain ⟨a, p⟩ := a
              obtain ⟨b, q⟩ := b
              obtain ⟨rfl, h4⟩ := h3
              exact ⟨rfl, h4⟩
theorem name_sim {i j : Nat} (h : Cor ts TS i j) : SimP ts TS (nameT ts i) (nameT TS j) := by
  obtain ⟨a1, a2, _⟩ := h.tok
  unfold nameT
  by_cases h1 : (tk ts i).kind = 1
  · rw [if_pos h1, if_pos (a1.trans h1), a2]
    exact ⟨rfl, Cor.one hE h (by rw [h1]; decide) (by rw [h1]; decide)⟩
  · rw [if_neg h1, if_neg (by rw [a1]; exact h1)]
    exact trivial
theorem line_sim {i j : Nat} (h : Cor ts TS i j) (w : List UInt8) : SimP ts TS (lineT ts w i) (lineT TS w j) := by
  have h1 := nums_sim hE (leastW w) i j h
  unfold lineT
  cases ha : numsT ts (leastW w) i with
  | error e =>
    cases hb : numsT TS (leastW w) j with
    | error e2 => exact trivial
    | ok y => rw [ha, hb] at h1; exact h1.elim
  | ok x =>
    cases hb : numsT TS (leastW w) j with
    | error e2 => rw [ha, hb] at h1; exact h1.elim
    | ok y =>
      rw [ha, hb] at h1
      obtain ⟨x, u⟩ := x
      obtain ⟨y, v⟩ := y
      obtain ⟨rfl, h2⟩ := h1
      dsimp only
      by_cases hw : w = wBar
      · rw [if_pos hw, if_pos hw]
        have h3 := dims_sim hE ts.length TS.length u v h2 (by omega) (by omega)
        cases hc : dimsT ts ts.length u with
        | error e =>
          cases hd : dimsT TS TS.length v with
          | error e2 => exact trivial
          | ok y => rw [hc, hd] at h3; exact h3.elim
        | ok a =>
          cases hd : dimsT TS TS.length v with
          | error e2 => rw [hc, hd] at h3; exact h3.elim
          | ok b =>
            rw [hc, hd] at h3
            obtain ⟨a, p⟩ := a
            obtain ⟨b, q⟩ := b
            obtain ⟨rfl, h4⟩ := h3
            exact ⟨rfl, h4⟩
      · rw [if_neg hw, if_neg hw]
        exact ⟨rfl, h2⟩
theorem skip_sim : ∀ (f g i j : Nat), Cor ts TS i j → ts.length ≤ i + f → TS.length ≤ j + g → Cor ts TS (skipT ts f i) (skipT TS g j)
  | 0, g, i, j, h, hf, hg => by have := h.1; omega
  | f + 1, 0, i, j, h, hf, hg => by have := h.tok.2.2; omega
  | f + 1, 1, i, j, h, hf, hg => by
    have hk := h.tok.1
    rw [skipT, skipT]
    by_cases h4 : (tk ts i).kind = 4
    · have := (Cor.nl hE h h4).2.1
      omega
    · rw [if_neg h4, if_neg (by rw [hk]; exact h4)]
      exact h
  | f + 1, g + 2, i, j, h, hf, hg => by
    have hk := h.tok.1
    rw [skipT, skipT]
    by_cases h4 : (tk ts i).kind = 4
    · obtain ⟨b1, b2, b3⟩ := Cor.nl hE h h4
      rw [if_pos h4, if_pos (hk.trans h4), skipT, if_pos b1]
      exact skip_sim f g (i + 1) (j + 2) b3 (by omega) (by omega)
    · rw [if_neg h4, if_neg (by rw [hk]; exact h4)]
      exact h
omit hE in
theorem skip_ge : ∀ (f i : Nat), i ≤ skipT ts f i
  | 0, i => Nat.le_refl _
  | f + 1, i => by
    rw [skipT]
    split
    · have := skip_ge f (i + 1)
      omega
    · exact Nat.le_refl _
omit hE in
theorem line_ge {w : List UInt8} {i : Nat} {l : List Int} {j : Nat} (h : lineT ts w i = .ok (l, j)) : i ≤ j := by
  unfold lineT at h
  split at h
  · cases h
  · rename_i l1 j1 h1
    have b := nums_up _ _ h1
    split at h
    · split at h
      · cases h
      · rename_i h2
        injection h with h
        injection h with _ h
        have d := dims_up _ _ h2
        omega
    · injection h with h
      injection h with _ h
      omega
omit hE in
theorem body_gt {w : List UInt8} {s s' : Rd} (h : bodyT ts w s = .ok s') : s.i < s'.i := by
  unfold bodyT at h
  split at h
  · cases h
  · rename_i nm i h1
    have hj : s.i + 1 ≤ i := by
      split at h1
      · unfold nameT at h1
        split at h1
        · injection h1 with h1
          injection h1 with _ h1
          omega
        · cases h1
      · injection h1 with h1
        injection h1 with _ h1
        omega
    split at h
    · cases h
    · rename_i n j h2
      have a := line_ge h2
      split at h
      · cases h
      · rename_i j' h3
        unfold endT at h3
        split at h3
        · injection h3 with h3
          have := skip_ge (ts := ts) ts.length j
          injection h with h
          subst h
          dsimp only
          omega
        · cases h3
theorem body_sim {w : List UInt8} {s t : Rd} (hd : s.d = t.d) (hr : s.ruled = t.ruled) (h : Cor ts TS s.i t.i) (hk : (tk ts s.i).kind = 1) : SimR ts TS (bodyT ts w s) (bodyT TS w t) := by
  have h0 := Cor.one hE h (by rw [hk]; decide) (by rw [hk]; decide)
  have h1 : SimP ts TS (if namedW w then nameT ts (s.i + 1) else .ok ([], s.i + 1)) (if namedW w then nameT TS (t.i + 1) else .ok ([], t.i + 1)) := by
    by_cases hn : namedW w = true
    · rw [if_pos hn, if_pos hn]
      exact name_sim hE h0
    · rw [if_neg hn, if_neg hn]
      exact ⟨rfl, h0⟩
  unfold bodyT
  generalize (if namedW w then nameT ts (s.i + 1) else .ok ([], s.i + 1)) = A at *
  generalize (if namedW w then nameT TS (t.i + 1) else .ok ([], t.i + 1)) = B at *
  match A, B, h1 with
  | .error _, .error _, _ => exact trivial
  | .ok (x, u), .ok (y, v), ⟨e, h2⟩ =>
    subst e
    dsimp only
    have h3 := line_sim hE h2 w
    generalize lineT ts w u = A2 at *
    generalize lineT TS w v = B2 at *
    match A2, B2, h3 with
    | .error _, .error _, _ => exact trivial
    | .ok (a, p), .ok (b, q), ⟨e2, h4⟩ =>
      subst e2
      dsimp only
      have hk4 := h4.tok.1
      unfold endT
      by_cases h5 : (tk ts p).kind = 4
      · rw [if_pos h5, if_pos (hk4.trans h5)]
        refine ⟨?_, ?_, skip_sim hE ts.length TS.length p q h4 (by omega) (by omega)⟩
        · show putD s.d w x a = putD t.d w x a
          rw [hd]
        · show (s.ruled || _) = (t.ruled || _)
          rw [hr]
      · rw [if_neg h5, if_neg (by rw [hk4]; exact h5)]
        exact trivial
theorem lines_sim : ∀ (f g : Nat) (s t : Rd), s.d = t.d → s.ruled = t.ruled → Cor ts TS s.i t.i → manyD s.d ≤ s.i → ts.length ≤ s.i + f → TS.length ≤ t.i + g → SimR ts TS (linesT ts f s) (linesT TS g t)
  | 0, g, s, t, hd, hr, h, hm, hf, hg => by have := h.1; omega
  | f + 1, 0, s, t, hd, hr, h, hm, hf, hg => by have := h.tok.2.2; omega
  | f + 1, g + 1, s, t, hd, hr, h, hm, hf, hg => by
    obtain ⟨a1, a2, a3⟩ := h.tok
    rw [linesT, linesT]
    by_cases h5 : (tk ts s.i).kind = 5
    · rw [if_pos h5, if_pos (a1.trans h5)]
      exact ⟨hd, hr, h⟩
    · rw [if_neg h5, if_neg (by rw [a1]; exact h5)]
      have hw : wordOk (tk TS t.i) t = wordOk (tk ts s.i) s := by unfold wordOk; rw [a1, a2, hd, hr]
      unfold otherT
      rw [hw]
      by_cases hq : wordOk (tk ts s.i) s = true
      · rw [if_pos hq, if_pos hq, a2]
        have hk : (tk ts s.i).kind = 1 := by
          unfold wordOk at hq
          simp only [Bool.and_eq_true, decide_eq_true_eq] at hq
          exact hq.1.1.1.1
        have h1 := body_sim hE (w := (tk ts s.i).text) hd hr h hk
        cases ha : bodyT ts (tk ts s.i).text s with
        | error e =>
          cases hb : bodyT TS (tk ts s.i).text t with
          | error e2 => exact trivial
          | ok y => rw [ha, hb] at h1; exact h1.elim
        | ok x =>
          cases hb : bodyT TS (tk ts s.i).text t with
          | error e2 => rw [ha, hb] at h1; exact h1.elim
          | ok y =>
            rw [ha, hb] at h1
            obtain ⟨b1, b2, b3⟩ := h1
            have hu := body_up hE (hE.more s.i h.1 h5) ha hm
            have hv : t.i < y.i := body_gt hb
            exact lines_sim f g x y b1 b2 b3 hu.2.2 (by omega) (by omega)
      · rw [if_neg hq, if_neg hq]
        exact trivial
theorem read_sim (h : Cor ts TS 0 0) : (∃ d, readT ts = .ok d ∧ readT TS = .ok d) ∨ ((∃ e, readT ts = .error e) ∧ ∃ e, readT TS = .error e) := by
  have h0 := skip_sim hE ts.length TS.length 0 0 h (by omega) (by omega)
  obtain ⟨a1, a2, _⟩ := h0.tok
  unfold readT
  dsimp only
  generalize skipT ts ts.length 0 = i at *
  generalize skipT TS TS.length 0 = j at *
  rw [a1, a2]
  by_cases hy : (tk ts i).kind = 1 ∧ (tk ts i).text = wMember
  · rw [if_pos hy, if_pos hy]
    have h1 := body_sim hE (w := wMember) (s := ⟨i, det0, false⟩) (t := ⟨j, det0, false⟩) rfl rfl h0 hy.1
    cases ha : bodyT ts wMember ⟨i, det0, false⟩ with
    | error e =>
      cases hb : bodyT TS wMember ⟨j, det0, false⟩ with
      | error e2 => exact .inr ⟨⟨_, rfl⟩, _, rfl⟩
      | ok y => rw [ha, hb] at h1; exact h1.elim
    | ok x =>
      cases hb : bodyT TS wMember ⟨j, det0, false⟩ with
      | error e2 => rw [ha, hb] at h1; exact h1.elim
      | ok y =>
        rw [ha, hb] at h1
        obtain ⟨b1, b2, b3⟩ := h1
        have hu := body_up hE (s := ⟨i, det0, false⟩) (hE.more i h0.1 (by rw [hy.1]; decide)) ha (Nat.zero_le _)
        have h3 := lines_sim hE ts.length TS.length x y b1 b2 b3 hu.2.2 (by omega) (by omega)
        dsimp only
        cases hc : linesT ts ts.length x with
        | error e =>
          cases hd : linesT TS TS.length y with
          | error e2 => exact .inr ⟨⟨_, rfl⟩, _, rfl⟩
          | ok z => rw [hc, hd] at h3; exact h3.elim
        | ok u =>
          cases hd : linesT TS TS.length y with
          | error e2 => rw [hc, hd] at h3; exact h3.elim
          | ok v =>
            rw [hc, hd] at h3
            obtain ⟨c1, c2, _⟩ := h3
            dsimp only
            rw [c2]
            cases v.ruled with
            | true => exact .inl ⟨u.d, rfl, by rw [c1]; rfl⟩
            | false => exact .inr ⟨⟨_, rfl⟩, _, rfl⟩
  · rw [if_neg hy, if_neg hy]
    exact .inr ⟨⟨_, rfl⟩, _, rfl⟩
end
theorem rep_len (F : List UInt8) (hF : F.length ≤ 11) : ∀ l : List UInt8, (repB F l).length ≤ 13 * l.length
  | [] => Nat.zero_le _
  | c :: l => by
    have := rep_len F hF l
    by_cases h : c = 10
    · subst h
      rw [rep_nl]
      simp only [List.length_append, List.length_cons]
      omega
    · rw [rep_cons h]
      simp only [List.length_cons]
      omega
/-- A source with more blanks is read as it was. -/
theorem blank_read {F l : List UInt8} (hF : Fil F) (hf : F.length ≤ 11) (h35 : noB 35 l) (hl : l.length ≤ 2000) : (readS (repB F l)).1 = (readS l).1 ∧ (readS (repB F l)).2.2 = (readS l).2.2 := by
  have hl2 := rep_len F hf l
  have none_of : ∀ {x : List UInt8}, x.length ≤ 262144 → tokG x.length x 1 1 = none → (tokS x).2.2 = 7 := fun {x} hx h => by
    unfold tokS
    rw [if_neg (by omega)]
    rcases tokF_G x.length x 1 1 [] with ⟨ts, q1, _⟩ | ⟨_, p, q2⟩
    · rw [h] at q1; cases q1
    · rw [q2]
  rcases tok_rep hF l.length l 1 1 h35 (Nat.le_refl _) (repB F l).length 1 1 (Nat.le_refl _) with ⟨ts, TS, q1, q2, q3⟩ | ⟨q1, q2⟩
  · have e1 := tokS_of (by omega) q1
    have e2 := tokS_of (T := repB F l) (by omega) q2
    have h0 : (tokS l).2.2 = 0 := by rw [e1]
    have hE := tokS_ends h0
    rw [e1] at hE
    have hc : Cor ts TS 0 0 := ⟨hE.2.1, by unfold ktFrom; rw [List.drop_zero, List.drop_zero]; exact q3⟩
    have r1 : ∀ {x : List UInt8} {us : List Tk}, tokS x = (us, (0, 0), 0) → ∀ {e : Nat}, readT us = .error e → (readS x).1 = det0 ∧ (readS x).2.2 = 7 := fun {x us} hx {e} he => by
      have := readS_err (l := x) (by rw [hx]) (j := e) (by rw [hx]; exact he)
      rw [this]
      exact ⟨rfl, rfl⟩
    rcases read_sim hE.1 hc with ⟨d, a1, a2⟩ | ⟨⟨u, a1⟩, v, a2⟩
    · rw [readS_of e1 a1, readS_of e2 a2]
      exact ⟨rfl, rfl⟩
    · obtain ⟨b1, b2⟩ := r1 e1 a1
      obtain ⟨c1, c2⟩ := r1 e2 a2
      rw [b1, b2, c1, c2]
      exact ⟨rfl, rfl⟩
  · have e1 := none_of (by omega) q1
    have e2 := none_of (x := repB F l) (by omega) q2
    rw [readS_of_tok (l := l) (by rw [e1]; decide), readS_of_tok (l := repB F l) (by rw [e2]; decide)]
    exact ⟨rfl, e2.trans e1.symm⟩

end Go.Proofs.YtccakklnbhcbdaaGreatDoor
