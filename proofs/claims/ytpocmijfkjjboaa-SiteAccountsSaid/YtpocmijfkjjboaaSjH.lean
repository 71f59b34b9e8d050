/- site, plainly: what an entry does to the account, the entries, the state. -/
import Derived.Test.YtpocmijfkjjboaaSjE
set_option linter.unusedVariables false
namespace Go.Proofs.Ytpocmijfkjjboaa
open Go.ChangeShapes Go.WideShapes Go.ChangeAt Go.RowKit

theorem doS_err {s : St} {x : Ent} (h : (doS s x).1 ≠ 0) : (doS s x).2 = s := by
  unfold doS at h ⊢
  by_cases h1 : givenS s x = 0
  · rw [if_neg (not_not_intro h1)] at h ⊢
    by_cases h2 : (actS s x).1 = 0
    · rw [if_neg (not_not_intro h2)] at h
      exact absurd rfl h
    · rw [if_pos h2]
  · rw [if_pos h1]
theorem doS_yes {s : St} {x : Ent} (h : (doS s x).1 = 0) : givenS s x = 0 ∧ (actS s x).1 = 0 ∧ (doS s x).2 = withK (actS s x).2 x := by
  unfold doS at h ⊢
  by_cases h1 : givenS s x = 0
  · rw [if_neg (not_not_intro h1)] at h ⊢
    by_cases h2 : (actS s x).1 = 0
    · rw [if_neg (not_not_intro h2)]
      exact ⟨h1, h2, rfl⟩
    · rw [if_pos h2] at h
      exact absurd h h2
  · rw [if_pos h1] at h
    exact absurd h h1
theorem doS_kept {s : St} {x : Ent} (h : (doS s x).1 = 0) : (doS s x).2.kept = s.kept ++ [x] := by
  rw [(doS_yes h).2.2]
  show (actS s x).2.kept ++ [x] = _
  rw [actS_kept]
theorem actS_rest (s : St) (x : Ent) : (actS s x).2.tags = s.tags ∧ (actS s x).2.member = s.member := by
  unfold actS moveS checkS doneS pourS
  split
  · split <;> (try split) <;> exact ⟨rfl, rfl⟩
  split
  · split <;> (try split) <;> exact ⟨rfl, rfl⟩
  split
  · split <;> (try split) <;> exact ⟨rfl, rfl⟩
  split
  · split <;> (try split) <;> exact ⟨rfl, rfl⟩
  split
  · split <;> (try split) <;> exact ⟨rfl, rfl⟩
  · split <;> (try split) <;> exact ⟨rfl, rfl⟩
theorem doS_tags (s : St) (x : Ent) : (doS s x).2.tags = s.tags := by
  by_cases h : (doS s x).1 = 0
  · rw [(doS_yes h).2.2]
    exact (actS_rest s x).1
  · rw [doS_err h]
theorem given_pour {s : St} {x : Ent} (h : givenS s x = 0) : s.poured = false ∧ 1 ≤ x.kind ∧ x.kind ≤ 6 := by
  have hl := (given_lt h).2
  unfold logV at hl
  simp only [Bool.and_eq_true, List.all_cons, List.all_nil, Bool.and_true] at hl
  have he := hl.1.2
  unfold entOk at he
  simp only [Bool.and_eq_true, decide_eq_true_eq] at he
  refine ⟨?_, he.1.1.2, he.1.2⟩
  unfold givenS at h
  rw [if_neg (by rw [(given_lt (s := s) (x := x) (by unfold givenS; exact h)).2]; decide)] at h
  split at h
  · cases h
  split at h
  · cases h
  split at h
  · cases h
  · rename_i q; simpa using q
theorem doS_pour {s : St} {x : Ent} (h : (doS s x).1 = 0) : s.poured = false ∧ (doS s x).2.poured = decide (x.kind = 5) ∧ (x.kind = 5 → readyS s = true) := by
  obtain ⟨h1, h2, h3⟩ := doS_yes h
  obtain ⟨hp, k1, k6⟩ := given_pour h1
  refine ⟨hp, ?_⟩
  rw [h3]
  show (actS s x).2.poured = _ ∧ _
  by_cases k5 : x.kind = 5
  · have ha : actS s x = pourS s x.name := by unfold actS; rw [if_neg (by omega), if_neg (by omega), if_neg (by omega), if_neg (by omega), if_neg (by omega)]
    rw [ha] at h2 ⊢
    unfold pourS at h2 ⊢
    by_cases q1 : x.name ≠ s.member
    · rw [if_pos q1] at h2; cases h2
    · rw [if_neg q1] at h2 ⊢
      cases q2 : readyS s
      · rw [q2, if_pos rfl] at h2; cases h2
      · rw [if_neg (by decide)]
        exact ⟨by rw [decide_eq_true k5], fun _ => rfl⟩
  · refine ⟨?_, fun h => absurd h k5⟩
    rw [decide_eq_false k5, ← hp]
    unfold actS at h2 ⊢
    unfold moveS checkS doneS at h2 ⊢
    split
    · split <;> (try split) <;> rfl
    split
    · split <;> (try split) <;> rfl
    split
    · split <;> (try split) <;> rfl
    split
    · split <;> (try split) <;> rfl
    split
    · split <;> (try split) <;> rfl
    · omega
theorem miss_count : ∀ (ts : List ByteArray) (a : List Nat), a.length = ts.length → (∀ y ∈ a, y ≤ 2) → (missS ts a).length = a.count 0 + a.count 1
  | [], [], _, _ => rfl
  | [], _ :: _, h, _ => by simp at h
  | _ :: _, [], h, _ => by simp at h
  | t :: ts, y :: a, h, hle => by
    have ih := miss_count ts a (by simpa using h) (fun z hz => hle z (List.mem_cons_of_mem _ hz))
    have hy := hle y (List.mem_cons_self ..)
    unfold missS
    have hc : y = 0 ∨ y = 1 ∨ y = 2 := by omega
    rcases hc with rfl | rfl | rfl
    · rw [if_neg (by decide), List.length_cons, ih, List.count_cons_self, List.count_cons_of_ne (by decide)]; omega
    · rw [if_neg (by decide), List.length_cons, ih, List.count_cons_self, List.count_cons_of_ne (by decide)]; omega
    · rw [if_pos rfl, ih, List.count_cons_of_ne (by decide), List.count_cons_of_ne (by decide)]
theorem count3 : ∀ (a : List Nat), (∀ y ∈ a, y ≤ 2) → a.count 0 + a.count 1 + a.count 2 = a.length
  | [], _ => rfl
  | y :: a, hle => by
    have ih := count3 a (fun z hz => hle z (List.mem_cons_of_mem _ hz))
    have hy := hle y (List.mem_cons_self ..)
    have hc : y = 0 ∨ y = 1 ∨ y = 2 := by omega
    rcases hc with rfl | rfl | rfl
    · rw [List.count_cons_self, List.count_cons_of_ne (by decide), List.count_cons_of_ne (by decide), List.length_cons]; omega
    · rw [List.count_cons_self, List.count_cons_of_ne (by decide), List.count_cons_of_ne (by decide), List.length_cons]; omega
    · rw [List.count_cons_self, List.count_cons_of_ne (by decide), List.count_cons_of_ne (by decide), List.length_cons]; omega

end Go.Proofs.Ytpocmijfkjjboaa
