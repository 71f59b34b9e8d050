/- Plain: the search for the least number of loads. -/
import Derived.Test.YtjlkbmaigcgnbaaDoorBJ19
set_option linter.unusedVariables false
namespace Go.Proofs.YtjlkbmaigcgnbaaDoor
theorem mod_last {α : Type} (f : α → α) (x : α) : ∀ l : List α, (l ++ [x]).modify l.length f = l ++ [f x]
  | [] => rfl
  | a :: l => by
    rw [List.cons_append, List.length_cons, List.modify_succ_cons, mod_last f x l]
    rfl
abbrev Fnd := Option (List (List Nat))
def prunB (L : List (List Nat)) (best : Fnd) : Bool := match best with
  | none => false
  | some b => decide (b.length ≤ L.length)
def waysV (most m : Int) (ms : List Int) (go : Nat → Fnd → Fnd) : Nat → Nat → List Int → Fnd → Fnd
  | 0, _, _, best => best
  | c + 1, j, seen, best =>
    if seen.contains (ms.getD j 0) || decide (most < ms.getD j 0 + m) then waysV most m ms go c (j + 1) seen best
    else waysV most m ms go c (j + 1) (ms.getD j 0 :: seen) (go j best)
def visitV (f : Nat → Int) (most : Int) : List Nat → List (List Nat) → List Int → Fnd → Fnd
  | [], L, ms, best => if prunB L best then best else some L
  | i :: r, L, ms, best => if prunB L best then best else
    visitV f most r (L ++ [[i]]) (ms ++ [f i]) (waysV most (f i) ms (fun j b => visitV f most r (L.modify j (· ++ [i])) (ms.modify j (· + f i)) b) L.length 0 [] best)
def leastV (f : Nat → Int) (most : Int) (o : List Nat) : Fnd := visitV f most o [] [] none
def NoW (a b : Fnd) : Prop := ∀ x, a = some x → ∃ y, b = some y ∧ y.length ≤ x.length
theorem NoW.refl (a : Fnd) : NoW a a := fun x h => ⟨x, h, Nat.le_refl _⟩
theorem NoW.trans {a b c : Fnd} (h : NoW a b) (k : NoW b c) : NoW a c := fun x hx => by
  obtain ⟨y, hy, h1⟩ := h x hx
  obtain ⟨z, hz, h2⟩ := k y hy
  exact ⟨z, hz, Nat.le_trans h2 h1⟩
theorem waysV_noW {most m : Int} {ms : List Int} {go : Nat → Fnd → Fnd} (hg : ∀ j b, NoW b (go j b)) : ∀ (c j : Nat) (seen : List Int) (best : Fnd), NoW best (waysV most m ms go c j seen best)
  | 0, _, _, best => NoW.refl _
  | c + 1, j, seen, best => by
    unfold waysV
    split
    · exact waysV_noW hg c _ _ _
    · exact (hg j best).trans (waysV_noW hg c _ _ _)
theorem visitV_noW {f : Nat → Int} {most : Int} : ∀ (o : List Nat) (L : List (List Nat)) (ms : List Int) (best : Fnd), NoW best (visitV f most o L ms best)
  | [], L, ms, best => by
    unfold visitV
    split
    · exact NoW.refl _
    · rename_i h
      intro x hx
      subst hx
      refine ⟨L, rfl, ?_⟩
      unfold prunB at h
      simp at h
      omega
  | i :: r, L, ms, best => by
    unfold visitV
    split
    · exact NoW.refl _
    · exact (waysV_noW (fun j b => visitV_noW r _ _ b) _ _ _ _).trans (visitV_noW r _ _ _)
def PkO (f : Nat → Int) (most : Int) (n : Nat) (best : Fnd) : Prop := ∀ b, best = some b → Pk f most n b
theorem waysV_pk {f : Nat → Int} {most m : Int} {n : Nat} {ms : List Int} {go : Nat → Fnd → Fnd} {N : Nat} (hN : N = ms.length) (hg : ∀ j b, j < N → ms.getD j 0 + m ≤ most → PkO f most n b → PkO f most n (go j b)) : ∀ (c j : Nat) (seen : List Int) (best : Fnd), j + c = N → PkO f most n best → PkO f most n (waysV most m ms go c j seen best)
  | 0, _, _, best, _, h => h
  | c + 1, j, seen, best, hc, h => by
    unfold waysV
    split
    · exact waysV_pk hN hg c _ _ _ (by omega) h
    · rename_i q
      simp only [Bool.or_eq_true, decide_eq_true_eq, not_or] at q
      exact waysV_pk hN hg c _ _ _ (by omega) (hg j best (by omega) (by omega) h)
theorem GOk.into {f : Nat → Int} {most : Int} {s : List (List Nat) × List Int} {o : List Nat} (h : GOk f most s o) {i j : Nat} (hj : j < s.1.length) (hf : 0 ≤ f i) (hm : s.2.getD j 0 + f i ≤ most) : GOk f most (s.1.modify j (· ++ [i]), s.2.modify j (· + f i)) (o ++ [i]) := by
  have hj2 : j < s.2.length := by rw [← h.len]; exact hj
  have hg : s.2.getD j 0 = s.2[j] := by rw [List.getD_eq_getElem?_getD, List.getElem?_eq_getElem hj2]; rfl
  rw [hg] at hm
  refine ⟨?_, ?_, ?_, fun k hk => ?_, fun x hx => ?_, fun x hx => ?_⟩
  · simp only [List.length_modify]; exact h.len
  · refine (flat_modify i _ _ hj).trans ?_
    refine (h.perm.cons i).trans ?_
    have := (List.perm_middle (a := i) (l₁ := o) (l₂ := [])).symm
    rwa [List.append_nil] at this
  · simp only [List.length_modify, List.length_append, List.length_singleton]
    have := h.few
    omega
  · simp only [List.length_modify] at hk
    simp only [List.getElem?_modify, List.getElem_modify, h.sums k hk]
    by_cases q : j = k
    · simp [q]
    · simp [q]
  · obtain ⟨k, hk, rfl⟩ := List.getElem_of_mem hx
    simp only [List.length_modify] at hk
    simp only [List.getElem_modify]
    have h1 := h.le _ (List.getElem_mem hk)
    split
    · rename_i e
      subst e
      omega
    · exact h1
  · obtain ⟨k, hk, rfl⟩ := List.getElem_of_mem hx
    simp only [List.length_modify] at hk
    simp only [List.getElem_modify]
    split
    · simp
    · exact h.ne _ (List.getElem_mem hk)
theorem GOk.fresh {f : Nat → Int} {most : Int} {s : List (List Nat) × List Int} {o : List Nat} (h : GOk f most s o) {i : Nat} (hf : 0 ≤ f i ∧ f i ≤ most) : GOk f most (s.1 ++ [[i]], s.2 ++ [f i]) (o ++ [i]) := by
  have hl := h.len
  refine ⟨by simp [hl], ?_, by have := h.few; simp; omega, fun k hk => ?_, fun x hx => ?_, fun x hx => ?_⟩
  · rw [List.flatten_append]
    simp only [List.flatten_cons, List.flatten_nil, List.append_nil]
    exact h.perm.append_right _
  · simp only [List.length_append, List.length_singleton] at hk
    by_cases q : k < s.1.length
    · rw [List.getElem?_append_left (by omega), h.sums k q]
      simp only [List.getElem_append_left q]
    · rw [List.getElem?_append_right (by omega)]
      simp only [List.getElem_append_right (show s.1.length ≤ k by omega)]
      rw [show k - s.2.length = 0 by omega]
      simp
  · rcases List.mem_append.1 hx with q | q
    · exact h.le x q
    · rw [List.mem_singleton] at q; rw [q]; exact hf
  · rcases List.mem_append.1 hx with q | q
    · exact h.ne x q
    · rw [List.mem_singleton] at q; rw [q]; simp
theorem visitV_pk {f : Nat → Int} {most : Int} {n : Nat} : ∀ (r : List Nat) (L : List (List Nat)) (ms : List Int) (d : List Nat) (best : Fnd), GOk f most (L, ms) d → (d ++ r).Perm (List.range n) → (∀ i ∈ r, 0 ≤ f i ∧ f i ≤ most) → PkO f most n best → PkO f most n (visitV f most r L ms best)
  | [], L, ms, d, best, h, hp, _, hb => by
    unfold visitV
    split
    · exact hb
    · intro b e
      injection e with e
      subst e
      exact h.pk (by rwa [List.append_nil] at hp)
  | i :: r, L, ms, d, best, h, hp, hf, hb => by
    unfold visitV
    have hfi := hf i (by simp)
    have hp2 : (d ++ [i] ++ r).Perm (List.range n) := by rw [List.append_assoc]; exact hp
    split
    · exact hb
    · refine visitV_pk r _ _ (d ++ [i]) _ (h.fresh hfi) hp2 (fun k hk => hf k (by simp [hk])) ?_
      refine waysV_pk (N := L.length) h.len (fun j b hj hm hb => ?_) _ _ _ _ (by omega) hb
      exact visitV_pk r _ _ (d ++ [i]) b (h.into hj hfi.1 hm) hp2 (fun k hk => hf k (by simp [hk])) hb
theorem visitV_some {f : Nat → Int} {most : Int} : ∀ (r : List Nat) (L : List (List Nat)) (ms : List Int) (best : Fnd), ∃ b, visitV f most r L ms best = some b
  | [], L, ms, best => by
    unfold visitV
    split
    · rename_i h
      cases best with
      | none => cases h
      | some b => exact ⟨b, rfl⟩
    · exact ⟨L, rfl⟩
  | i :: r, L, ms, best => by
    unfold visitV
    split
    · rename_i h
      cases best with
      | none => cases h
      | some b => exact ⟨b, rfl⟩
    · exact visitV_some r _ _ _
def LeG (best : Fnd) (n : Nat) : Prop := ∃ b, best = some b ∧ b.length ≤ n
theorem NoW.leG {a b : Fnd} (h : NoW a b) {n : Nat} (ha : LeG a n) : LeG b n := by
  obtain ⟨x, hx, h1⟩ := ha
  obtain ⟨y, hy, h2⟩ := h x hx
  exact ⟨y, hy, Nat.le_trans h2 h1⟩
theorem waysV_first {most m : Int} {ms : List Int} {go : Nat → Fnd → Fnd} {g : Nat} (hg : ∀ j b, NoW b (go j b)) : ∀ (c j : Nat) (best : Fnd), j + c = ms.length → (∀ k, k < j → most < ms.getD k 0 + m) → pickG most m ms < ms.length → (∀ b, LeG (go (pickG most m ms) b) g) → LeG (waysV most m ms go c j [] best) g
  | 0, j, best, hc, hno, hp, hl => by
    have h1 := pickG_at hp
    have h2 := hno (pickG most m ms) (by omega)
    rw [List.getD_eq_getElem?_getD, List.getElem?_eq_getElem hp] at h2
    simp only [Option.getD_some] at h2
    omega
  | c + 1, j, best, hc, hno, hp, hl => by
    have hj : j < ms.length := by omega
    unfold waysV
    split
    · rename_i q
      simp only [List.contains_nil, Bool.false_or, decide_eq_true_eq] at q
      refine waysV_first hg c (j + 1) best (by omega) (fun k hk => ?_) hp hl
      rcases Nat.lt_or_ge k j with r | r
      · exact hno k r
      · rw [show k = j by omega]; exact q
    · rename_i q
      simp only [List.contains_nil, Bool.false_or, decide_eq_true_eq] at q
      have e : pickG most m ms = j := by
        unfold pickG
        rw [List.findIdx_eq hj]
        have h3 : ms.getD j 0 = ms[j] := by rw [List.getD_eq_getElem?_getD, List.getElem?_eq_getElem hj]; rfl
        refine ⟨decide_eq_true (by omega), fun k hk => decide_eq_false ?_⟩
        have := hno k hk
        rw [List.getD_eq_getElem?_getD, List.getElem?_eq_getElem (by omega)] at this
        simp only [Option.getD_some] at this
        omega
      exact (waysV_noW hg c _ _ _).leG (by have := hl best; rwa [e] at this)
theorem gStep_grow (f : Nat → Int) (most : Int) (s : List (List Nat) × List Int) (i : Nat) : s.1.length ≤ (gStep f most s i).1.length := by
  unfold gStep moreG
  simp only [List.length_modify]
  split
  · exact Nat.le_refl _
  · simp
theorem greed_grow (f : Nat → Int) (most : Int) : ∀ (r : List Nat) (s : List (List Nat) × List Int), s.1.length ≤ (r.foldl (gStep f most) s).1.length
  | [], s => Nat.le_refl _
  | i :: r, s => Nat.le_trans (gStep_grow f most s i) (greed_grow f most r _)
theorem prun_leG {L : List (List Nat)} {best : Fnd} {n : Nat} (h : prunB L best = true) (hn : L.length ≤ n) : LeG best n := by
  cases best with
  | none => cases h
  | some b =>
    unfold prunB at h
    simp at h
    exact ⟨b, rfl, by omega⟩
theorem visitV_le {f : Nat → Int} {most : Int} : ∀ (r : List Nat) (L : List (List Nat)) (ms : List Int) (best : Fnd), L.length = ms.length → LeG (visitV f most r L ms best) (r.foldl (gStep f most) (L, ms)).1.length
  | [], L, ms, best, hl => by
    unfold visitV
    split
    · rename_i h
      exact prun_leG h (Nat.le_refl _)
    · exact ⟨L, rfl, Nat.le_refl _⟩
  | i :: r, L, ms, best, hl => by
    rw [List.foldl_cons]
    unfold visitV
    split
    · rename_i h
      exact prun_leG h (Nat.le_trans (gStep_grow f most (L, ms) i) (greed_grow f most r _))
    · have hgo : ∀ (j : Nat) (b : Fnd), NoW b (visitV f most r (L.modify j (· ++ [i])) (ms.modify j (· + f i)) b) := fun j b => visitV_noW r _ _ b
      rcases moreG_or most (f i) (L, ms) with ⟨hp, e⟩ | ⟨hp, e⟩
      · have hst : gStep f most (L, ms) i = (L.modify (pickG most (f i) ms) (· ++ [i]), ms.modify (pickG most (f i) ms) (· + f i)) := by
          unfold gStep
          rw [e]
        rw [hst]
        refine (visitV_noW r _ _ _).leG ?_
        refine waysV_first hgo _ _ _ (by rw [hl]; omega) (fun k hk => absurd hk (by omega)) hp (fun b => ?_)
        exact visitV_le r _ _ b (by simp only [List.length_modify]; exact hl)
      · have hst : gStep f most (L, ms) i = (L ++ [[i]], ms ++ [f i]) := by
          unfold gStep
          rw [e]
          dsimp only at hp ⊢
          rw [hp]
          congr 1
          · rw [← hl, mod_last]
            rfl
          · rw [mod_last, Int.zero_add]
        rw [hst]
        exact visitV_le r _ _ _ (by simp [hl])
theorem leastV_ok {f : Nat → Int} {most : Int} {n : Nat} {o : List Nat} (ho : o.Perm (List.range n)) (hf : ∀ i, i < n → 0 ≤ f i ∧ f i ≤ most) : ∃ b, leastV f most o = some b ∧ Pk f most n b ∧ b.length ≤ (greedG f most o).1.length := by
  obtain ⟨b, hb, h1⟩ := visitV_le (f := f) (most := most) o [] [] none rfl
  have hpk := visitV_pk (f := f) (most := most) (n := n) o [] [] [] none (GOk.nil f most) (by rw [List.nil_append]; exact ho) (fun i hi => hf i (by simpa using ho.mem_iff.1 hi)) (fun b h => by cases h)
  exact ⟨b, hb, hpk b hb, h1⟩
end Go.Proofs.YtjlkbmaigcgnbaaDoor
