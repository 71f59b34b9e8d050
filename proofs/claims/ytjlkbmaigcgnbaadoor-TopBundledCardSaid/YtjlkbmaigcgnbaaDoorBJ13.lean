/- Plain: the heaviest first; greedy loads. A row of rows of ints, each in a block of its own, and a row of sums beside it. -/
import Derived.Test.YtjlkbmaigcgnbaaDoorBJ01
import Derived.OneCell
set_option linter.unusedVariables false
namespace Go.Proofs.YtjlkbmaigcgnbaaDoor
def massN (l : List Bun) (i : Nat) : Int := match l[i]? with | some b => b.mass | none => 0
def insR (f : Nat → Int) (x : Nat) : List Nat → List Nat
  | [] => [x]
  | y :: r => if f y < f x then y :: insR f x r else x :: y :: r
def ordN (f : Nat → Int) (n : Nat) : List Nat := ((List.range n).foldl (fun r x => insR f x r) []).reverse
theorem insR_perm (f : Nat → Int) (x : Nat) : ∀ r : List Nat, (insR f x r).Perm (x :: r)
  | [] => List.Perm.refl _
  | y :: r => by
    unfold insR
    split
    · exact ((insR_perm f x r).cons y).trans (List.Perm.swap x y r)
    · exact List.Perm.refl _
theorem fold_perm (f : Nat → Int) : ∀ (l r : List Nat), (l.foldl (fun r x => insR f x r) r).Perm (l ++ r)
  | [], r => List.Perm.refl _
  | x :: l, r => by
    rw [List.foldl_cons]
    refine (fold_perm f l (insR f x r)).trans ?_
    refine ((insR_perm f x r).append_left l).trans ?_
    exact List.perm_middle
theorem ordN_perm (f : Nat → Int) (n : Nat) : (ordN f n).Perm (List.range n) := by
  unfold ordN
  refine (List.reverse_perm _).trans ?_
  have := fold_perm f (List.range n) []
  rwa [List.append_nil] at this
theorem ordN_len (f : Nat → Int) (n : Nat) : (ordN f n).length = n := by simpa using (ordN_perm f n).length_eq
theorem ordN_lt {f : Nat → Int} {n i : Nat} (h : i ∈ ordN f n) : i < n := by simpa using (ordN_perm f n).mem_iff.1 h
def pickG (most m : Int) (ms : List Int) : Nat := ms.findIdx fun n => decide (n + m ≤ most)
def moreG (most m : Int) (s : List (List Nat) × List Int) : List (List Nat) × List Int := if pickG most m s.2 < s.2.length then s else (s.1 ++ [[]], s.2 ++ [0])
def gStep (f : Nat → Int) (most : Int) (s : List (List Nat) × List Int) (i : Nat) : List (List Nat) × List Int :=
  ((moreG most (f i) s).1.modify (pickG most (f i) s.2) (· ++ [i]), (moreG most (f i) s).2.modify (pickG most (f i) s.2) (· + f i))
def greedG (f : Nat → Int) (most : Int) (o : List Nat) : List (List Nat) × List Int := o.foldl (gStep f most) ([], [])
theorem flat_modify (i : Nat) : ∀ (L : List (List Nat)) (k : Nat), k < L.length → (L.modify k (· ++ [i])).flatten.Perm (i :: L.flatten)
  | [], k, h => by simp at h
  | x :: L, 0, _ => by
    rw [List.modify_zero_cons, List.flatten_cons, List.flatten_cons, List.append_assoc]
    exact List.perm_middle
  | x :: L, k + 1, h => by
    rw [List.modify_succ_cons, List.flatten_cons, List.flatten_cons]
    refine ((flat_modify i L k (by simpa using h)).append_left x).trans ?_
    exact List.perm_middle
theorem pickG_le (most m : Int) (ms : List Int) : pickG most m ms ≤ ms.length := List.findIdx_le_length
structure GOk (f : Nat → Int) (most : Int) (s : List (List Nat) × List Int) (o : List Nat) : Prop where
  len : s.1.length = s.2.length
  perm : s.1.flatten.Perm o
  few : s.1.length ≤ o.length
  sums : ∀ k (h : k < s.1.length), s.2[k]? = some ((s.1[k].map f).sum)
  le : ∀ x ∈ s.2, 0 ≤ x ∧ x ≤ most
  ne : ∀ x ∈ s.1, x ≠ []
theorem GOk.nil (f : Nat → Int) (most : Int) : GOk f most ([], []) [] where
  len := rfl
  perm := List.Perm.refl _
  few := Nat.le_refl _
  sums := fun k h => by simp at h
  le := fun x h => by simp at h
  ne := fun x h => by simp at h
theorem pickG_at {most m : Int} {ms : List Int} (h : pickG most m ms < ms.length) : ms[pickG most m ms] + m ≤ most := by
  have := List.findIdx_getElem (w := h) (xs := ms) (p := fun n => decide (n + m ≤ most))
  exact of_decide_eq_true this
theorem moreG_or (most m : Int) (s : List (List Nat) × List Int) : (pickG most m s.2 < s.2.length ∧ moreG most m s = s) ∨ (pickG most m s.2 = s.2.length ∧ moreG most m s = (s.1 ++ [[]], s.2 ++ [0])) := by
  unfold moreG
  by_cases hp : pickG most m s.2 < s.2.length
  · rw [if_pos hp]; exact .inl ⟨hp, rfl⟩
  · rw [if_neg hp]
    have := pickG_le most m s.2
    exact .inr ⟨by omega, rfl⟩
structure GMid (f : Nat → Int) (most : Int) (M : List (List Nat) × List Int) (o : List Nat) (i k : Nat) : Prop where
  len : M.1.length = M.2.length
  lt : k < M.1.length
  perm : M.1.flatten.Perm o
  few : M.1.length ≤ o.length + 1
  sums : ∀ k (h : k < M.1.length), M.2[k]? = some ((M.1[k].map f).sum)
  le : ∀ j (h : j < M.2.length), 0 ≤ M.2[j] ∧ M.2[j] ≤ most ∧ (k = j → M.2[j] + f i ≤ most)
  ne : ∀ j (h : j < M.1.length), k ≠ j → M.1[j] ≠ []
theorem GOk.mid {f : Nat → Int} {most : Int} {s : List (List Nat) × List Int} {o : List Nat} (h : GOk f most s o) {i : Nat} (hi : 0 ≤ f i ∧ f i ≤ most) : GMid f most (moreG most (f i) s) o i (pickG most (f i) s.2) := by
  rcases moreG_or most (f i) s with ⟨hp, e⟩ | ⟨hp, e⟩
  · rw [e]
    exact ⟨h.len, by rw [h.len]; exact hp, h.perm, by have := h.few; omega, h.sums, fun j hj => ⟨(h.le _ (List.getElem_mem _)).1, (h.le _ (List.getElem_mem _)).2, fun q => by subst q; exact pickG_at hp⟩, fun j hj _ => h.ne _ (List.getElem_mem _)⟩
  · rw [e, hp]
    refine ⟨by simp [h.len], by simp [h.len], by simpa using h.perm, by simpa using h.few, fun k hk => ?_, fun j hj => ?_, fun j hj q => ?_⟩
    · simp only [List.length_append, List.length_singleton] at hk
      by_cases q : k < s.1.length
      · rw [List.getElem?_append_left (by rw [← h.len]; exact q), h.sums k q]
        simp only [List.getElem_append_left q]
      · rw [List.getElem?_append_right (by have := h.len; omega)]
        simp only [List.getElem_append_right (show s.1.length ≤ k by omega)]
        have e2 : k - s.2.length = 0 := by have := h.len; omega
        rw [e2]
        simp
    · simp only [List.length_append, List.length_singleton] at hj
      by_cases q : j < s.2.length
      · simp only [List.getElem_append_left q]
        exact ⟨(h.le _ (List.getElem_mem _)).1, (h.le _ (List.getElem_mem _)).2, fun e => by omega⟩
      · simp only [List.getElem_append_right (show s.2.length ≤ j by omega), List.getElem_singleton]
        exact ⟨Int.le_refl _, by omega, fun _ => by omega⟩
    · simp only [List.length_append, List.length_singleton] at hj
      have hl := h.len
      rw [List.getElem_append_left (by omega)]
      exact h.ne _ (List.getElem_mem _)
theorem GOk.step {f : Nat → Int} {most : Int} {s : List (List Nat) × List Int} {o : List Nat} (h : GOk f most s o) {i : Nat} (hi : 0 ≤ f i ∧ f i ≤ most) : GOk f most (gStep f most s i) (o ++ [i]) := by
  have hM := h.mid hi
  unfold gStep
  generalize moreG most (f i) s = M at hM ⊢
  generalize pickG most (f i) s.2 = k at hM ⊢
  refine ⟨?_, ?_, ?_, fun j hj => ?_, fun x hx => ?_, fun x hx => ?_⟩
  · simp only [List.length_modify]; exact hM.len
  · refine (flat_modify i _ _ hM.lt).trans ?_
    refine (hM.perm.cons i).trans ?_
    have := (List.perm_middle (a := i) (l₁ := o) (l₂ := [])).symm
    rwa [List.append_nil] at this
  · simp only [List.length_modify, List.length_append, List.length_singleton]
    exact hM.few
  · simp only [List.length_modify] at hj
    simp only [List.getElem?_modify, List.getElem_modify, hM.sums j hj]
    by_cases q : k = j
    · simp [q]
    · simp [q]
  · obtain ⟨j, hj, rfl⟩ := List.getElem_of_mem hx
    simp only [List.length_modify] at hj
    simp only [List.getElem_modify]
    obtain ⟨q1, q2, q3⟩ := hM.le j hj
    split
    · rename_i e
      exact ⟨by omega, q3 e⟩
    · exact ⟨q1, q2⟩
  · obtain ⟨j, hj, rfl⟩ := List.getElem_of_mem hx
    simp only [List.length_modify] at hj
    simp only [List.getElem_modify]
    split
    · simp
    · rename_i e
      exact hM.ne j hj e
theorem GOk.run {f : Nat → Int} {most : Int} : ∀ (r : List Nat) (s : List (List Nat) × List Int) (o : List Nat), GOk f most s o → (∀ i ∈ r, 0 ≤ f i ∧ f i ≤ most) → GOk f most (r.foldl (gStep f most) s) (o ++ r)
  | [], s, o, h, _ => by rw [List.append_nil]; exact h
  | i :: r, s, o, h, hr => by
    rw [List.foldl_cons]
    have := GOk.run r _ _ (h.step (hr i (by simp))) (fun j hj => hr j (by simp [hj]))
    rwa [List.append_assoc, List.singleton_append] at this
theorem greed_take {f : Nat → Int} {most : Int} {n k : Nat} (h : ∀ i, i < n → 0 ≤ f i ∧ f i ≤ most) : GOk f most (greedG f most ((ordN f n).take k)) ((ordN f n).take k) := by
  have := GOk.run ((ordN f n).take k) _ _ (GOk.nil f most) (fun i hi => h i (ordN_lt (List.mem_of_mem_take hi)))
  rwa [List.nil_append] at this
theorem ordN_succ (f : Nat → Int) (n : Nat) : ordN f (n + 1) = (insR f n (ordN f n).reverse).reverse := by
  unfold ordN
  rw [List.range_succ, List.foldl_append, List.reverse_reverse]
  rfl
def InsAt (f : Nat → Int) (x : Nat) (A B T : List Nat) : Prop := (insR f x A.reverse).reverse ++ B = T
theorem InsAt.start (f : Nat → Int) (n : Nat) : InsAt f n (ordN f n) [] (ordN f (n + 1)) := by
  unfold InsAt
  rw [List.append_nil, ordN_succ]
theorem InsAt.go {f : Nat → Int} {x y : Nat} {A B T : List Nat} (h : InsAt f x (A ++ [y]) B T) (hy : f y < f x) : InsAt f x A (y :: B) T := by
  unfold InsAt at h ⊢
  rw [List.reverse_append, List.reverse_singleton, List.singleton_append, insR, if_pos hy, List.reverse_cons, List.append_assoc] at h
  exact h
theorem InsAt.stop {f : Nat → Int} {x y : Nat} {A B T : List Nat} (h : InsAt f x (A ++ [y]) B T) (hy : ¬ f y < f x) : (A ++ [y]) ++ x :: B = T := by
  unfold InsAt at h
  rw [List.reverse_append, List.reverse_singleton, List.singleton_append, insR, if_neg hy] at h
  rw [← h]
  simp
theorem InsAt.zero {f : Nat → Int} {x : Nat} {B T : List Nat} (h : InsAt f x [] B T) : x :: B = T := by
  unfold InsAt at h
  exact h
theorem greedG_take {f : Nat → Int} {most : Int} {o : List Nat} {k : Nat} (h : k < o.length) : greedG f most (o.take (k + 1)) = gStep f most (greedG f most (o.take k)) o[k] := by
  unfold greedG
  rw [List.take_succ_eq_append_getElem h, List.foldl_append]
  rfl
end Go.Proofs.YtjlkbmaigcgnbaaDoor
set_option linter.unusedVariables false
namespace Go.Proofs.YtjlkbmaigcgnbaaDoor
open Go.ChangeShapes Go.WideShapes Go.ChangeAt Go.RowKit
section
variable {w w' : World} {base n sz : Nat} {e : TypeId} {v : Value} {xs : List Value}
theorem own_keep (h : w.ownsRow base e sz v n xs) (hb : ∀ b, v.ownBlock = some b → w'.heap[b]? = w.heap[b]?) : w'.ownsRow base e sz v n xs := by
  obtain ⟨hl, h | ⟨g, cap, cur, h1, h2, h3, h4⟩⟩ := h
  · exact ⟨hl, .inl h⟩
  · exact ⟨hl, .inr ⟨g, cap, cur, h1, h2, (hb g (by rw [h1]; rfl)).trans h3, h4⟩⟩
theorem own_put (h : w.ownsRow base e 1 v n xs) {g k : Nat} (hg : v.ownBlock = some g) (hk : k < n) (u : Value) : (w.setCell ⟨g, k, none⟩ u).ownsRow base e 1 v n (xs.set k u) := by
  obtain ⟨hl, ⟨h1, h2⟩ | ⟨g', cap, cur, h1, h2, h3, h4, h5, h6, h7⟩⟩ := h
  · omega
  · obtain rfl : g' = g := by rw [h1] at hg; injection hg
    refine ⟨by rw [List.length_set]; exact hl, .inr ⟨g', cap, _, h1, h2, heap_setCell_same w g' k cur e u h3, h4, h5, by rw [Array.size_setIfInBounds]; exact h6, ?_⟩⟩
    rw [Array.toList_setIfInBounds, List.take_set, h7]
theorem own_some (h : w.ownsRow base e 1 v n xs) (hn : 0 < n) : ∃ g cap, v = .slice (some ⟨g, 0, none⟩) n cap ∧ n ≤ cap ∧ cap ≤ 9223372036854775807 ∧ base ≤ g ∧ g < w.heap.size ∧ (∀ i, w.frozen? ⟨g, i, none⟩ = false) ∧ ∀ (k : Nat) (u : Value), xs[k]? = some u → w.cell? ⟨g, k, none⟩ = some u := by
  obtain ⟨hl, ⟨h1, h2⟩ | ⟨g, cap, cur, h1, h2, h3, h4, h5, h6, h7⟩⟩ := h
  · omega
  · refine ⟨g, cap, h1, h4, by have : cap ≤ 2 ^ 63 - 1 := h5; omega, h2, (Array.getElem?_eq_some_iff.1 h3).1, fun i => by simp [World.frozen?, h3], fun k u hu => ?_⟩
    have hk := (List.getElem?_eq_some_iff.1 hu).1
    have hc := cell_of_row w g k cur e (0, 0) h3
    rw [hc]
    rw [← h7, List.getElem?_take_of_lt (by omega)] at hu
    rw [← hu]
    simp
end
def natV (l : List Nat) : List Value := l.map fun n : Nat => .int .i64 (n : Int)
def intV (l : List Int) : List Value := l.map fun n : Int => .int .i64 n
theorem natV_len (l : List Nat) : (natV l).length = l.length := List.length_map ..
theorem intV_len (l : List Int) : (intV l).length = l.length := List.length_map ..
structure GrX (B : Nat) (w : World) (L : List (List Nat)) (ms : List Int) (vo vm : Value) (cs vs : List Value) : Prop where
  o : w.ownsRow B 42 1 vo cs.length cs
  m : w.ownsRow B 3 1 vm ms.length (intV ms)
  n : vs.length = L.length
  each : ∀ j (h1 : j < vs.length) (h2 : j < L.length), w.ownsRow B 3 1 vs[j] L[j].length (natV L[j])
  om : Dj vo.ownBlock vm.ownBlock
  ov : ∀ j (h1 : j < vs.length), Dj vo.ownBlock vs[j].ownBlock
  mv : ∀ j (h1 : j < vs.length), Dj vm.ownBlock vs[j].ownBlock
  vv : ∀ i j (hi : i < vs.length) (hj : j < vs.length), i ≠ j → Dj vs[i].ownBlock vs[j].ownBlock
section
variable {B : Nat} {w w' : World} {L : List (List Nat)} {ms : List Int} {vo vm : Value} {cs vs : List Value}
theorem GrX.nil (B : Nat) (w : World) : GrX B w [] [] (.slice none 0 0) (.slice none 0 0) [] [] where
  o := World.ownsRow_nil _ _ _ _
  m := World.ownsRow_nil _ _ _ _
  n := rfl
  each := fun j h => absurd h (by simp)
  om := fun x h => by cases h
  ov := fun j h => absurd h (by simp)
  mv := fun j h => absurd h (by simp)
  vv := fun i j h => absurd h (by simp)
theorem GrX.keep (h : GrX B w L ms vo vm cs vs) (hb : ∀ b, B ≤ b → b < w.heap.size → (vo.ownBlock = some b ∨ vm.ownBlock = some b ∨ ∃ j, ∃ h1 : j < vs.length, vs[j].ownBlock = some b) → w'.heap[b]? = w.heap[b]?) : GrX B w' L ms vo vm cs vs where
  o := own_keep h.o fun b hv => hb b (own_lt h.o hv).2 (own_lt h.o hv).1 (.inl hv)
  m := own_keep h.m fun b hv => hb b (own_lt h.m hv).2 (own_lt h.m hv).1 (.inr (.inl hv))
  n := h.n
  each := fun j h1 h2 => own_keep (h.each j h1 h2) fun b hv => hb b (own_lt (h.each j h1 h2) hv).2 (own_lt (h.each j h1 h2) hv).1 (.inr (.inr ⟨j, h1, hv⟩))
  om := h.om
  ov := h.ov
  mv := h.mv
  vv := h.vv
theorem GrX.up (h : GrX B w L ms vo vm cs vs) (hb : Below w.heap.size w w') : GrX B w' L ms vo vm cs vs := h.keep fun b _ hlt _ => hb.block b hlt
theorem GrX.lt (h : GrX B w L ms vo vm cs vs) {j b : Nat} (h1 : j < vs.length) (hb : vs[j].ownBlock = some b) : b < w.heap.size := (own_lt (h.each j h1 (by rw [← h.n]; exact h1)) hb).1
theorem GrX.pushO (h : GrX B w L ms vo vm vs vs) {vo' : Value} (hg : w.grownBy w' vo.ownBlock) (ho : w'.ownsRow B 42 1 vo' (vs.length + 1) (vs ++ [.slice none 0 0])) (hl : vo'.ownBlock = vo.ownBlock ∨ vo'.ownBlock = some w.heap.size) : GrX B w' (L ++ [[]]) ms vo' vm (vs ++ [.slice none 0 0]) (vs ++ [.slice none 0 0]) := by
  have hn := h.n
  have hm : ∀ j (h1 : j < (vs ++ [Value.slice none 0 0]).length), (vs ++ [Value.slice none 0 0])[j].ownBlock = none ∨ ∃ h2 : j < vs.length, (vs ++ [Value.slice none 0 0])[j] = vs[j] := fun j h1 => by
    by_cases q : j < vs.length
    · exact .inr ⟨q, List.getElem_append_left q⟩
    · left
      rw [List.getElem_append_right (by omega)]
      simp only [List.getElem_singleton]
      rfl
  refine ⟨by rw [List.length_append]; exact ho, own_keep h.m fun b hv => hg.block b (own_lt h.m hv).1 (fun e => h.om b e.symm hv), by simp [hn], fun j h1 h2 => ?_, ?_, fun j h1 => ?_, fun j h1 => ?_, fun i j hi hj hij => ?_⟩
  · by_cases q : j < vs.length
    · have q2 : j < L.length := by omega
      rw [List.getElem_append_left q]
      simp only [List.getElem_append_left q2]
      exact own_keep (h.each j q q2) fun b hv => hg.block b (h.lt q hv) (fun e => h.ov j q b e.symm hv)
    · have q2 : L.length ≤ j := by omega
      rw [List.getElem_append_right (by omega)]
      simp only [List.getElem_append_right q2, List.getElem_singleton]
      exact World.ownsRow_nil _ _ _ _
  · intro x hx hy
    rcases hl with e | e
    · rw [e] at hx; exact h.om x hx hy
    · rw [e] at hx; injection hx with hx; have := (own_lt h.m hy).1; omega
  · intro x hx hy
    rcases hm j h1 with q | ⟨q, q2⟩
    · rw [q] at hy; cases hy
    · rw [q2] at hy
      rcases hl with e | e
      · rw [e] at hx; exact h.ov j q x hx hy
      · rw [e] at hx; injection hx with hx; have := h.lt q hy; omega
  · intro x hx hy
    rcases hm j h1 with q | ⟨q, q2⟩
    · rw [q] at hy; cases hy
    · rw [q2] at hy; exact h.mv j q x hx hy
  · intro x hx hy
    rcases hm j hj with q | ⟨q, q2⟩
    · rw [q] at hy; cases hy
    · rcases hm i hi with r | ⟨r, r2⟩
      · rw [r] at hx; cases hx
      · rw [q2] at hy
        rw [r2] at hx
        exact h.vv i j r q hij x hx hy
theorem GrX.pushM (h : GrX B w L ms vo vm cs vs) {vm' : Value} {z : Int} (hg : w.grownBy w' vm.ownBlock) (ho : w'.ownsRow B 3 1 vm' (ms.length + 1) (intV ms ++ [.int .i64 z])) (hl : vm'.ownBlock = vm.ownBlock ∨ vm'.ownBlock = some w.heap.size) : GrX B w' L (ms ++ [z]) vo vm' cs vs := by
  refine ⟨own_keep h.o fun b hv => hg.block b (own_lt h.o hv).1 (fun e => h.om b hv e.symm), by rw [List.length_append, show intV (ms ++ [z]) = intV ms ++ [.int .i64 z] by unfold intV; rw [List.map_append]; rfl]; exact ho, h.n, fun j h1 h2 => own_keep (h.each j h1 h2) fun b hv => hg.block b (h.lt h1 hv) (fun e => h.mv j h1 b e.symm hv), ?_, h.ov, fun j h1 => ?_, h.vv⟩
  · intro x hx hy
    rcases hl with e | e
    · rw [e] at hy; exact h.om x hx hy
    · rw [e] at hy; injection hy with hy; have := (own_lt h.o hx).1; omega
  · intro x hx hy
    rcases hl with e | e
    · rw [e] at hx; exact h.mv j h1 x hx hy
    · rw [e] at hx; injection hx with hx; have := h.lt h1 hy; omega
theorem GrX.setV (h : GrX B w L ms vo vm cs vs) {v' : Value} {k i : Nat} (hk : k < vs.length) (hk2 : k < L.length) (hg : w.grownBy w' vs[k].ownBlock) (ho : w'.ownsRow B 3 1 v' (L[k].length + 1) (natV L[k] ++ [.int .i64 (i : Int)])) (hl : v'.ownBlock = vs[k].ownBlock ∨ v'.ownBlock = some w.heap.size) : GrX B w' (L.modify k (· ++ [i])) ms vo vm cs (vs.set k v') := by
  have hn := h.n
  have hm : ∀ j (h1 : j < (vs.set k v').length), (j = k ∧ (vs.set k v')[j] = v') ∨ (k ≠ j ∧ ∃ h2 : j < vs.length, (vs.set k v')[j] = vs[j]) := fun j h1 => by
    rw [List.length_set] at h1
    by_cases q : k = j
    · exact .inl ⟨q.symm, by rw [List.getElem_set, if_pos q]⟩
    · exact .inr ⟨q, h1, by rw [List.getElem_set, if_neg q]⟩
  have far : ∀ {P : Option Nat}, (∀ b, P = some b → b < w.heap.size) → Dj P vs[k].ownBlock → Dj P v'.ownBlock := fun {P} hP hd x hx hy => by
    rcases hl with e | e
    · rw [e] at hy; exact hd x hx hy
    · rw [e] at hy; injection hy with hy; have := hP x hx; omega
  refine ⟨own_keep h.o fun b hv => hg.block b (own_lt h.o hv).1 (fun e => h.ov k hk b hv e.symm), own_keep h.m fun b hv => hg.block b (own_lt h.m hv).1 (fun e => h.mv k hk b hv e.symm), by simp [hn], fun j h1 h2 => ?_, h.om, fun j h1 => ?_, fun j h1 => ?_, fun i j hi hj hij => ?_⟩
  · rcases hm j h1 with ⟨rfl, q⟩ | ⟨q, q2, q3⟩
    · rw [q]
      simp only [List.getElem_modify, if_true, List.length_append, List.length_singleton, natV, List.map_append, List.map_cons, List.map_nil]
      exact ho
    · rw [q3]
      simp only [List.getElem_modify, if_neg q]
      exact own_keep (h.each j q2 (by omega)) fun b hv => hg.block b (h.lt q2 hv) (fun e => h.vv k j hk q2 q b e.symm hv)
  · rcases hm j h1 with ⟨_, q⟩ | ⟨q, q2, q3⟩
    · rw [q]; exact far (fun b hb => (own_lt h.o hb).1) (h.ov k hk)
    · rw [q3]; exact h.ov j q2
  · rcases hm j h1 with ⟨_, q⟩ | ⟨q, q2, q3⟩
    · rw [q]; exact far (fun b hb => (own_lt h.m hb).1) (h.mv k hk)
    · rw [q3]; exact h.mv j q2
  · rcases hm i hi with ⟨e1, q⟩ | ⟨q, q2, q3⟩
    · rcases hm j hj with ⟨e2, r⟩ | ⟨r, r2, r3⟩
      · exact absurd (e1.trans e2.symm) hij
      · rw [q, r3]
        exact (far (fun b hb => h.lt r2 hb) (h.vv j k r2 hk (fun e => r e.symm))).symm
    · rcases hm j hj with ⟨e2, r⟩ | ⟨r, r2, r3⟩
      · rw [q3, r]
        exact far (fun b hb => h.lt q2 hb) (h.vv i k q2 hk (fun e => q e.symm))
      · rw [q3, r3]
        exact h.vv i j q2 r2 hij
theorem GrX.putO (h : GrX B w L ms vo vm cs vs) {g k : Nat} (hg : vo.ownBlock = some g) (hk : k < cs.length) (u : Value) : GrX B (w.setCell ⟨g, k, none⟩ u) L ms vo vm (cs.set k u) vs where
  o := by rw [List.length_set]; exact own_put h.o hg hk u
  m := ownsRow_setCell_other h.m (fun e => h.om g hg e) u
  n := h.n
  each := fun j h1 h2 => ownsRow_setCell_other (h.each j h1 h2) (fun e => h.ov j h1 g hg e) u
  om := h.om
  ov := h.ov
  mv := h.mv
  vv := h.vv
theorem GrX.putM (h : GrX B w L ms vo vm cs vs) {g k : Nat} (hg : vm.ownBlock = some g) (hk : k < ms.length) (z : Int) : GrX B (w.setCell ⟨g, k, none⟩ (.int .i64 z)) L (ms.set k z) vo vm cs vs where
  o := ownsRow_setCell_other h.o (fun e => h.om g e hg) _
  m := by
    rw [List.length_set, show intV (ms.set k z) = (intV ms).set k (.int .i64 z) by unfold intV; rw [List.map_set]]
    exact own_put h.m hg hk _
  n := h.n
  each := fun j h1 h2 => ownsRow_setCell_other (h.each j h1 h2) (fun e => h.mv j h1 g hg e) _
  om := h.om
  ov := h.ov
  mv := h.mv
  vv := h.vv
end
end Go.Proofs.YtjlkbmaigcgnbaaDoor
