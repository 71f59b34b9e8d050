/- Plain: the entries of a yard (delivered load by load, placed in order, poured) and what they do. The library's table of powers of ten; strconv.Itoa by its contract. -/
import Derived.Test.YtcokobdffbhpeaaGreatDoorCJ21
import Derived.Test.YtcokobdffbhpeaaGreatDoorCJ00
import Derived.Test.YtcokobdffbhpeaaGreatDoorCJ05
import Derived.Test.YtcokobdffbhpeaaGreatDoorCJ07
import Derived.Lib.LaidTab
set_option linter.unusedVariables false
namespace Go.Proofs.YtcokobdffbhpeaaGreatDoor
def LoadsOk (n : Nat) (loads : List (List Nat)) : Prop := loads.flatten.Perm (List.range n)
def nmT (tags : List ByteArray) (i : Nat) : ByteArray := tags.getD i ⟨#[]⟩
def delE (tags : List ByteArray) (d : Nat) (ld : List Nat) : List Ent := ld.map fun i => ⟨(d : Int), 1, nmT tags i⟩
def delA (tags : List ByteArray) : List (List Nat) → Nat → List Ent
  | [], _ => []
  | ld :: r, d => delE tags d ld ++ delA tags r (d + 1)
def plaE (tags : List ByteArray) (d : Nat) : List Ent := tags.map fun t => ⟨(d : Int), 2, t⟩
def yardE (tags : List ByteArray) (loads : List (List Nat)) : List Ent := delA tags loads 0 ++ plaE tags loads.length ++ [⟨(loads.length : Int), 5, ⟨#[109]⟩⟩]
theorem delA_snoc (tags : List ByteArray) : ∀ (l : List (List Nat)) (x : List Nat) (d : Nat), delA tags (l ++ [x]) d = delA tags l d ++ delE tags (d + l.length) x
  | [], x, d => by simp [delA]
  | y :: l, x, d => by
    rw [List.cons_append, delA, delA_snoc tags l x (d + 1), delA, List.append_assoc, List.length_cons, show d + 1 + l.length = d + (l.length + 1) by omega]
theorem delA_len (tags : List ByteArray) : ∀ (l : List (List Nat)) (d : Nat), (delA tags l d).length = l.flatten.length
  | [], _ => rfl
  | y :: l, d => by rw [delA, List.length_append, delA_len tags l (d + 1), List.flatten_cons, List.length_append]; simp [delE]
theorem delA_mem {tags : List ByteArray} : ∀ {l : List (List Nat)} {d : Nat} {x : Ent}, x ∈ delA tags l d → (d : Int) ≤ x.day ∧ x.day < d + l.length ∧ x.kind = 1 ∧ ∃ i ∈ l.flatten, x.name = nmT tags i
  | [], _, x, h => by cases h
  | y :: l, d, x, h => by
    rw [delA, List.mem_append] at h
    rcases h with h | h
    · unfold delE at h
      obtain ⟨i, hi, rfl⟩ := List.mem_map.1 h
      refine ⟨Int.le_refl _, ?_, rfl, i, by simp [hi], rfl⟩
      simp only [List.length_cons]
      omega
    · obtain ⟨h1, h2, h3, i, hi, h4⟩ := delA_mem h
      refine ⟨by omega, ?_, h3, i, ?_, h4⟩
      · simp only [List.length_cons]; omega
      · rw [List.flatten_cons]; exact List.mem_append_right _ hi
theorem delA_pw (tags : List ByteArray) : ∀ (l : List (List Nat)) (d : Nat), (delA tags l d).Pairwise fun a b => a.day ≤ b.day
  | [], _ => List.Pairwise.nil
  | y :: l, d => by
    rw [delA, List.pairwise_append]
    refine ⟨?_, delA_pw tags l (d + 1), fun a ha b hb => ?_⟩
    · unfold delE
      rw [List.pairwise_map]
      exact List.pairwise_of_forall (fun _ _ => Int.le_refl _)
    · obtain ⟨i, -, rfl⟩ := List.mem_map.1 (show a ∈ y.map _ from ha)
      have := (delA_mem hb).1
      show (d : Int) ≤ b.day
      omega
theorem nmT_mem {tags : List ByteArray} {i : Nat} (h : i < tags.length) : nmT tags i = tags[i] := by
  unfold nmT
  rw [List.getD_eq_getElem?_getD, List.getElem?_eq_getElem h]
  rfl
theorem LoadsOk.lt {n : Nat} {loads : List (List Nat)} (h : LoadsOk n loads) {i : Nat} (hi : i ∈ loads.flatten) : i < n := by
  have := h.mem_iff.1 hi
  simpa using this
theorem LoadsOk.len {n : Nat} {loads : List (List Nat)} (h : LoadsOk n loads) : loads.flatten.length = n := by
  have := h.length_eq
  simpa using this
theorem LoadsOk.nodup {n : Nat} {loads : List (List Nat)} (h : LoadsOk n loads) : loads.flatten.Nodup := h.nodup_iff.2 List.nodup_range
theorem yardE_len (tags : List ByteArray) {loads : List (List Nat)} (h : LoadsOk tags.length loads) : (yardE tags loads).length = 2 * tags.length + 1 := by
  unfold yardE plaE
  rw [List.length_append, List.length_append, delA_len, h.len, List.length_map, List.length_singleton]
  omega
theorem yardE_val {tags : List ByteArray} {loads : List (List Nat)} (h : LoadsOk tags.length loads) (hn : tags.length ≤ 400) (hl : loads.length ≤ 1000) (hT : ∀ t ∈ tags, nameB (by_ t) = true) (hm : nameB (by_ ⟨#[109]⟩) = true) : logV (yardE tags loads) = true := by
  have hd : ∀ x ∈ yardE tags loads, 0 ≤ x.day ∧ x.day ≤ loads.length ∧ 1 ≤ x.kind ∧ x.kind ≤ 6 ∧ nameB (by_ x.name) = true := fun x hx => by
    unfold yardE plaE at hx
    rw [List.mem_append, List.mem_append, List.mem_singleton] at hx
    rcases hx with (hx | hx) | hx
    · obtain ⟨h1, h2, h3, i, hi, h4⟩ := delA_mem hx
      refine ⟨by omega, by omega, by omega, by omega, ?_⟩
      rw [h4, nmT_mem (h.lt hi)]
      exact hT _ (List.getElem_mem _)
    · obtain ⟨t, ht, rfl⟩ := List.mem_map.1 hx
      exact ⟨by show (0 : Int) ≤ loads.length; omega, Int.le_refl _, by show (1 : Int) ≤ 2; decide, by show (2 : Int) ≤ 6; decide, hT t ht⟩
    · subst hx
      exact ⟨by show (0 : Int) ≤ loads.length; omega, Int.le_refl _, by show (1 : Int) ≤ 5; decide, by show (5 : Int) ≤ 6; decide, hm⟩
  unfold logV
  simp only [Bool.and_eq_true, decide_eq_true_eq, List.all_eq_true]
  refine ⟨⟨by rw [yardE_len tags h]; omega, fun x hx => ?_⟩, ?_⟩
  · obtain ⟨h1, h2, h3, h4, h5⟩ := hd x hx
    unfold entOk
    simp only [Bool.and_eq_true, decide_eq_true_eq]
    exact ⟨⟨⟨⟨h1, by omega⟩, h3⟩, h4⟩, h5⟩
  · unfold yardE plaE
    rw [List.pairwise_append, List.pairwise_append]
    refine ⟨⟨delA_pw tags loads 0, ?_, fun a ha b hb => ?_⟩, List.pairwise_singleton _ _, fun a ha b hb => ?_⟩
    · rw [List.pairwise_map]
      exact List.pairwise_of_forall (fun _ _ => Int.le_refl _)
    · obtain ⟨t, ht, rfl⟩ := List.mem_map.1 hb
      have := (delA_mem ha).2.1
      show a.day ≤ (loads.length : Int)
      omega
    · rw [List.mem_singleton] at hb
      subst hb
      rw [List.mem_append] at ha
      show a.day ≤ (loads.length : Int)
      rcases ha with ha | ha
      · have := (delA_mem ha).2.1
        omega
      · obtain ⟨t, ht, rfl⟩ := List.mem_map.1 ha
        exact Int.le_refl _
def mkS (tags : List ByteArray) (m : ByteArray) (a : List Nat) (k : List Ent) : St := ⟨tags, a, m, [], k, false⟩
theorem given_ok {s : St} {x : Ent} (h : logV (s.kept ++ [x]) = true) (hp : s.poured = false) : givenS s x = 0 := by
  unfold logV at h
  simp only [Bool.and_eq_true, decide_eq_true_eq, List.length_append, List.length_singleton, List.all_append] at h
  obtain ⟨⟨h1, h2⟩, h3⟩ := h
  rw [List.pairwise_append] at h3
  unfold givenS
  rw [if_neg (by
    unfold logV
    simp only [List.length_singleton, h2.2, List.pairwise_singleton]
    simp), if_neg (by omega), if_neg, if_neg (by rw [hp]; decide)]
  rintro ⟨q1, q2⟩
  rcases List.eq_nil_or_concat s.kept with hk | ⟨l', z, q⟩
  · rw [hk] at q1; simp at q1
  · rw [List.concat_eq_append] at q
    have e : lastDay s.kept = z.day := by unfold lastDay; rw [q]; simp
    have := h3.2.2 z (by rw [q]; simp) x (by simp)
    omega
theorem ix_nodup {tags : List ByteArray} (h : tags.Nodup) {i : Nat} (hi : i < tags.length) : ix tags tags[i] = i := by
  refine ix_here hi rfl fun j hj hlt => ?_
  have := List.pairwise_iff_getElem.1 h j i hj hi hlt
  exact this
theorem step_move {tags : List ByteArray} {m : ByteArray} {a : List Nat} {k : List Ent} (hN : tags.Nodup) {i : Nat} (hi : i < tags.length) (hla : a.length = tags.length) {d kd : Int} {f t : Nat} (hk : kd = 1 ∧ f = 0 ∧ t = 1 ∨ kd = 2 ∧ f = 1 ∧ t = 2) (hf : a[i]'(by omega) = f) (hv : logV (k ++ [⟨d, kd, tags[i]⟩]) = true) :
    doS (mkS tags m a k) ⟨d, kd, tags[i]⟩ = (0, mkS tags m (a.set i t) (k ++ [⟨d, kd, tags[i]⟩])) := by
  have hg := given_ok (s := mkS tags m a k) (x := ⟨d, kd, tags[i]⟩) hv rfl
  have hm : moveS (mkS tags m a k) tags[i] f t = (0, mkS tags m (a.set i t) k) := by
    unfold moveS
    have e1 : inB tags[i] (mkS tags m a k).tags = true := inB_iff.2 (List.getElem_mem _)
    have e2 : ix (mkS tags m a k).tags tags[i] = i := ix_nodup hN hi
    rw [if_neg (by rw [e1]; decide), e2]
    have e3 : (mkS tags m a k).at_.getD i 0 = f := by
      show a.getD i 0 = f
      rw [List.getD_eq_getElem?_getD, List.getElem?_eq_getElem (by omega), Option.getD_some, hf]
    rw [if_neg (by rw [e3]; simp)]
    rfl
  have ha : actS (mkS tags m a k) ⟨d, kd, tags[i]⟩ = (0, mkS tags m (a.set i t) k) := by
    unfold actS
    rcases hk with ⟨rfl, rfl, rfl⟩ | ⟨rfl, rfl, rfl⟩
    · rw [if_pos rfl]; exact hm
    · rw [if_neg (by show ¬ (2 : Int) = 1; decide), if_pos rfl]; exact hm
  unfold doS
  rw [if_neg (by rw [hg]; simp), ha, if_neg (by simp)]
  rfl
def setL (a : List Nat) (t : Nat) (is : List Nat) : List Nat := is.foldl (fun a i => a.set i t) a
theorem setL_len (t : Nat) : ∀ (is : List Nat) (a : List Nat), (setL a t is).length = a.length
  | [], a => rfl
  | i :: is, a => by show (setL (a.set i t) t is).length = _; rw [setL_len t is, List.length_set]
theorem setL_get (t : Nat) : ∀ (is : List Nat) (a : List Nat) (j : Nat) (hj : j < a.length), (setL a t is)[j]? = some (if j ∈ is then t else a[j])
  | [], a, j, hj => by show a[j]? = _; rw [List.getElem?_eq_getElem hj]; simp
  | i :: is, a, j, hj => by
    show (setL (a.set i t) t is)[j]? = _
    rw [setL_get t is (a.set i t) j (by rw [List.length_set]; exact hj)]
    by_cases h1 : j ∈ is
    · rw [if_pos h1, if_pos (List.mem_cons_of_mem _ h1)]
    · rw [if_neg h1, List.getElem_set]
      by_cases h2 : i = j
      · rw [if_pos h2, if_pos (by rw [h2]; simp)]
      · rw [if_neg h2, if_neg (by simp [h1]; omega)]
theorem play_move {tags : List ByteArray} {m : ByteArray} (hN : tags.Nodup) {kd : Int} {f t : Nat} (hk : kd = 1 ∧ f = 0 ∧ t = 1 ∨ kd = 2 ∧ f = 1 ∧ t = 2) : ∀ (os : List (Int × Nat)) (a : List Nat) (k : List Ent), a.length = tags.length → (∀ o ∈ os, ∃ h : o.2 < a.length, a[o.2] = f) → (os.map (·.2)).Nodup →
    logV (k ++ os.map fun o => ⟨o.1, kd, nmT tags o.2⟩) = true → playF (os.map fun o => ⟨o.1, kd, nmT tags o.2⟩) (mkS tags m a k) = (0, mkS tags m (setL a t (os.map (·.2))) (k ++ os.map fun o => ⟨o.1, kd, nmT tags o.2⟩))
  | [], a, k, _, _, _, _ => by simp [playF, setL]
  | o :: os, a, k, hla, ho, hnd, hv => by
    obtain ⟨h1, h2⟩ := ho o (by simp)
    have ht : nmT tags o.2 = tags[o.2]'(by omega) := nmT_mem (by omega)
    rw [List.map_cons] at hv ⊢
    have hv1 : logV (k ++ [⟨o.1, kd, tags[o.2]'(by omega)⟩]) = true := by
      refine logV_pre (m := os.map fun o => ⟨o.1, kd, nmT tags o.2⟩) ?_
      rw [List.append_assoc, List.singleton_append, ← ht]
      exact hv
    have hs := step_move (m := m) hN (by omega) hla hk h2 hv1
    rw [ht, playF_go (by rw [hs]), hs]
    rw [List.map_cons, List.nodup_cons] at hnd
    have ih := play_move (m := m) hN hk os (a.set o.2 t) (k ++ [⟨o.1, kd, tags[o.2]'(by omega)⟩]) (by rw [List.length_set]; exact hla) (fun p hp => by
      obtain ⟨q1, q2⟩ := ho p (by simp [hp])
      refine ⟨by rw [List.length_set]; exact q1, ?_⟩
      rw [List.getElem_set_ne (by
        intro e
        exact hnd.1 (List.mem_map.2 ⟨p, hp, e.symm⟩))]
      exact q2) hnd.2 (by rw [List.append_assoc, List.singleton_append, ← ht]; exact hv)
    rw [ih, List.append_assoc]
    rfl
theorem delA_ops (tags : List ByteArray) : ∀ (l : List (List Nat)) (d : Nat), ∃ os : List (Int × Nat), delA tags l d = (os.map fun o => ⟨o.1, 1, nmT tags o.2⟩) ∧ os.map (·.2) = l.flatten
  | [], d => ⟨[], rfl, rfl⟩
  | ld :: r, d => by
    obtain ⟨os, h1, h2⟩ := delA_ops tags r (d + 1)
    refine ⟨(ld.map fun i => ((d : Int), i)) ++ os, ?_, ?_⟩
    · rw [delA, h1, List.map_append, List.map_map]; rfl
    · rw [List.map_append, h2, List.map_map, List.flatten_cons]
      congr 1
      exact (List.map_congr_left (fun _ _ => rfl)).trans (List.map_id _)
theorem plaE_ops (tags : List ByteArray) (d : Nat) : ∃ os : List (Int × Nat), plaE tags d = (os.map fun o => ⟨o.1, 2, nmT tags o.2⟩) ∧ os.map (·.2) = List.range tags.length := by
  refine ⟨(List.range tags.length).map fun i => ((d : Int), i), ?_, ?_⟩
  · unfold plaE
    rw [List.map_map]
    refine List.ext_getElem (by simp) fun i h1 h2 => ?_
    simp only [List.getElem_map, List.getElem_range, Function.comp]
    rw [nmT_mem (by simpa using h1)]
  · rw [List.map_map]
    exact (List.map_congr_left (fun _ _ => rfl)).trans (List.map_id _)
theorem miss_none : ∀ (ts : List ByteArray) (n : Nat), missS ts (List.replicate n 2) = []
  | [], n => by cases n <;> rfl
  | t :: ts, 0 => rfl
  | t :: ts, n + 1 => by rw [List.replicate_succ, missS, if_pos rfl]; exact miss_none ts n
theorem yard_play {tags : List ByteArray} {loads : List (List Nat)} (hN : tags.Nodup) (h : LoadsOk tags.length loads) (hv : logV (yardE tags loads) = true) :
    playF (yardE tags loads) (mkS tags ⟨#[109]⟩ (List.replicate tags.length 0) []) = (0, { mkS tags ⟨#[109]⟩ (List.replicate tags.length 2) (yardE tags loads) with poured := true }) := by
  obtain ⟨o1, e1, f1⟩ := delA_ops tags loads 0
  obtain ⟨o2, e2, f2⟩ := plaE_ops tags loads.length
  have hv12 := logV_pre hv
  have hv1 := logV_pre hv12
  have p1 := play_move (m := ⟨#[109]⟩) hN (.inl ⟨rfl, rfl, rfl⟩) o1 (List.replicate tags.length 0) [] (by simp) (fun o ho => by
    have : o.2 ∈ loads.flatten := by rw [← f1]; exact List.mem_map.2 ⟨o, ho, rfl⟩
    exact ⟨by rw [List.length_replicate]; exact h.lt this, by simp⟩) (by rw [f1]; exact h.nodup) (by rw [← e1, List.nil_append]; exact hv1)
  rw [← e1, List.nil_append, f1] at p1
  have a1 : setL (List.replicate tags.length 0) 1 loads.flatten = List.replicate tags.length 1 := by
    refine List.ext_getElem? fun j => ?_
    by_cases hj : j < tags.length
    · rw [setL_get 1 loads.flatten _ j (by simpa using hj), if_pos (h.mem_iff.2 (by simpa using hj)), List.getElem?_replicate, if_pos hj]
    · rw [List.getElem?_eq_none (by rw [setL_len]; simp; omega), List.getElem?_eq_none (by simp; omega)]
  rw [a1] at p1
  have p2 := play_move (m := ⟨#[109]⟩) hN (.inr ⟨rfl, rfl, rfl⟩) o2 (List.replicate tags.length 1) (delA tags loads 0) (by simp) (fun o ho => by
    have : o.2 ∈ List.range tags.length := by rw [← f2]; exact List.mem_map.2 ⟨o, ho, rfl⟩
    exact ⟨by simpa using this, by simp⟩) (by rw [f2]; exact List.nodup_range) (by rw [← e2]; exact hv12)
  rw [← e2, f2] at p2
  have a2 : setL (List.replicate tags.length 1) 2 (List.range tags.length) = List.replicate tags.length 2 := by
    refine List.ext_getElem? fun j => ?_
    by_cases hj : j < tags.length
    · rw [setL_get 2 _ _ j (by simpa using hj), if_pos (by simpa using hj), List.getElem?_replicate, if_pos hj]
    · rw [List.getElem?_eq_none (by rw [setL_len]; simp; omega), List.getElem?_eq_none (by simp; omega)]
  rw [a2] at p2
  unfold yardE
  rw [List.append_assoc, playF_app _ _ _ _ p1, playF_app _ _ _ _ p2]
  have hr : readyS (mkS tags ⟨#[109]⟩ (List.replicate tags.length 2) (delA tags loads 0 ++ plaE tags loads.length)) = true := by
    unfold readyS mkS
    rw [miss_none]
    rfl
  have hg := given_ok (s := mkS tags ⟨#[109]⟩ (List.replicate tags.length 2) (delA tags loads 0 ++ plaE tags loads.length)) (x := ⟨(loads.length : Int), 5, ⟨#[109]⟩⟩) hv rfl
  have ha : actS (mkS tags ⟨#[109]⟩ (List.replicate tags.length 2) (delA tags loads 0 ++ plaE tags loads.length)) ⟨(loads.length : Int), 5, ⟨#[109]⟩⟩ = (0, { mkS tags ⟨#[109]⟩ (List.replicate tags.length 2) (delA tags loads 0 ++ plaE tags loads.length) with poured := true }) := by
    unfold actS
    rw [if_neg (by simp), if_neg (by simp), if_neg (by simp), if_neg (by simp), if_neg (by simp)]
    unfold pourS
    rw [if_neg (by simp [mkS]), if_neg (by rw [hr]; decide)]
  have hd : doS (mkS tags ⟨#[109]⟩ (List.replicate tags.length 2) (delA tags loads 0 ++ plaE tags loads.length)) ⟨(loads.length : Int), 5, ⟨#[109]⟩⟩ = (0, { mkS tags ⟨#[109]⟩ (List.replicate tags.length 2) (delA tags loads 0 ++ plaE tags loads.length ++ [⟨(loads.length : Int), 5, ⟨#[109]⟩⟩]) with poured := true }) := by
    unfold doS
    rw [if_neg (by rw [hg]; simp), ha, if_neg (by simp)]
    rfl
  rw [playF_go (by rw [hd]), hd, playF]
  rw [List.append_assoc]
end Go.Proofs.YtcokobdffbhpeaaGreatDoor
set_option linter.unusedVariables false
namespace Go.Proofs.YtcokobdffbhpeaaGreatDoor
open Go.ChangeShapes Go.WideShapes Go.ChangeAt Go.RowKit
abbrev Tab (w : World) : Prop := Lib.TabIs Tryz.prog w "internal/strconv.uint64pow10" .u64 Lib.pow10Tab
theorem Tab.bel {w w' : World} (h : Tab w) (hb : Below w.heap.size w w') : Tab w' := by
  unfold Tab Lib.TabIs World.var? at *
  cases hg : Tryz.prog.globalNamed "internal/strconv.uint64pow10" with
  | none => rw [hg] at h; simp at h
  | some g =>
    simp only [hg, Option.bind_some] at h ⊢
    have hlt : g < w.heap.size := by
      rcases Nat.lt_or_ge g w.heap.size with k | k
      · exact k
      · rw [Array.getElem?_eq_none k] at h; simp at h
    rw [hb.block g hlt]
    exact h
theorem hb_grow (w : World) (k : Nat) (os : Array Obj) : Below w.heap.size w (Go.Sort.grow (w.drewN k) os) := by
  have := below_regrown w (w.drewN k).drawn os
  exact this
theorem itoa_tab (n : Int) (h : -9223372036854775808 ≤ n ∧ n ≤ 9223372036854775807) (w : World) (ht : Tab w) :
    Calls Tryz.prog 34 #[.int .i64 n] w fun e w' => e = .returned (.string ⟨(Lib.itoa n).toArray⟩) ∧ Below w.heap.size w w' :=
  (Tryz.strconv_Itoa n h.1 h.2 w ht).mono fun _ _ ⟨he, k, os, hw⟩ => ⟨he, by rw [hw]; exact hb_grow w k os⟩
end Go.Proofs.YtcokobdffbhpeaaGreatDoor
