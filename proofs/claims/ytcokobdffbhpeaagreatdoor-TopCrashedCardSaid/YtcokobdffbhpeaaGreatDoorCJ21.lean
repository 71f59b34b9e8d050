/- site, plainly: what an entry does to the account, the entries, the state. Plain: beginnings of journals; a byte of a journal changed; what is appended. Plain: a site after the entries of a log; what it keeps leads to it again. -/
import Derived.Test.YtcokobdffbhpeaaGreatDoorCJ20
import Derived.Test.YtcokobdffbhpeaaGreatDoorCJ17
set_option linter.unusedVariables false
namespace Go.Proofs.YtcokobdffbhpeaaGreatDoor
open Go.ChangeShapes Go.WideShapes Go.ChangeAt Go.RowKit
theorem doS_err {s : St} {x : Ent} (h : (doS s x).1 ≠ 0) : (doS s x).2 = s := by
  unfold doS at h ⊢
  by_cases h1 : givenS s x = 0
  · rw [if_neg (not_not_intro h1)] at h ⊢
    by_cases h2 : (actS s x).1 = 0
    · rw [if_neg (not_not_intro h2)] at h
      exact absurd rfl h
    · rw [if_pos h2]
  · rw [if_pos h1]
theorem doS_yes {s : St} {x : Ent} (h : (doS s x).1 = 0) : givenS s x = 0 ∧ (actS s x).1 = 0 ∧ (doS s x).2 = withK (actS s x).2 x := by
  unfold doS at h ⊢
  by_cases h1 : givenS s x = 0
  · rw [if_neg (not_not_intro h1)] at h ⊢
    by_cases h2 : (actS s x).1 = 0
    · rw [if_neg (not_not_intro h2)]
      exact ⟨h1, h2, rfl⟩
    · rw [if_pos h2] at h
      exact absurd h h2
  · rw [if_pos h1] at h
    exact absurd h h1
theorem doS_kept {s : St} {x : Ent} (h : (doS s x).1 = 0) : (doS s x).2.kept = s.kept ++ [x] := by
  rw [(doS_yes h).2.2]
  show (actS s x).2.kept ++ [x] = _
  rw [actS_kept]
theorem actS_rest (s : St) (x : Ent) : (actS s x).2.tags = s.tags ∧ (actS s x).2.member = s.member := by
  unfold actS moveS checkS doneS pourS
  split
  · split <;> (try split) <;> exact ⟨rfl, rfl⟩
  split
  · split <;> (try split) <;> exact ⟨rfl, rfl⟩
  split
  · split <;> (try split) <;> exact ⟨rfl, rfl⟩
  split
  · split <;> (try split) <;> exact ⟨rfl, rfl⟩
  split
  · split <;> (try split) <;> exact ⟨rfl, rfl⟩
  · split <;> (try split) <;> exact ⟨rfl, rfl⟩
theorem doS_tags (s : St) (x : Ent) : (doS s x).2.tags = s.tags := by
  by_cases h : (doS s x).1 = 0
  · rw [(doS_yes h).2.2]
    exact (actS_rest s x).1
  · rw [doS_err h]
theorem count3 : ∀ (a : List Nat), (∀ y ∈ a, y ≤ 2) → a.count 0 + a.count 1 + a.count 2 = a.length
  | [], _ => rfl
  | y :: a, hle => by
    have ih := count3 a (fun z hz => hle z (List.mem_cons_of_mem _ hz))
    have hy := hle y (List.mem_cons_self ..)
    have hc : y = 0 ∨ y = 1 ∨ y = 2 := by omega
    rcases hc with rfl | rfl | rfl
    · rw [List.count_cons_self, List.count_cons_of_ne (by decide), List.count_cons_of_ne (by decide), List.length_cons]; omega
    · rw [List.count_cons_self, List.count_cons_of_ne (by decide), List.count_cons_of_ne (by decide), List.length_cons]; omega
    · rw [List.count_cons_self, List.count_cons_of_ne (by decide), List.count_cons_of_ne (by decide), List.length_cons]; omega
end Go.Proofs.YtcokobdffbhpeaaGreatDoor
set_option linter.unusedVariables false
namespace Go.Proofs.YtcokobdffbhpeaaGreatDoor
open Go.ChangeShapes Go.WideShapes Go.ChangeAt Go.RowKit
open Go.Lib (decDigits itoa itoa_nonneg)
theorem count_no {c : UInt8} {l : List UInt8} (h : noB c l) : l.count c = 0 := List.count_eq_zero.2 (fun hm => h c hm rfl)
theorem no_count {c : UInt8} {l : List UInt8} (h : l.count c = 0) : noB c l := fun b hb e => List.count_eq_zero.1 h (e ▸ hb)
theorem line_32 {x : Ent} (h : WordsOk x) : (lineE x).count 32 = 3 := by
  have h1 := count_no (dec_noB (c := 32) (by decide) x.day.toNat)
  have h2 := count_no (dec_noB (c := 32) (by decide) x.kind.toNat)
  have h3 := count_no (name_noB h.nm).1
  unfold lineE
  rw [h.dayE, h.kindE]
  simp only [List.count_append, List.count_cons, h1, h2, h3, List.count_nil]
  rfl
theorem rec_10 {x : Ent} (p : List UInt8) (h : WordsOk x) : (recE p x).count 10 = 1 := by
  have h1 := count_no (line_noB h)
  have h2 := count_no (dec_noB (c := 10) (by decide) (sumF (sumB p) (lineE x)))
  unfold recE
  simp only [List.count_append, List.count_cons, h1, h2, List.count_nil]
  rfl
theorem line_end (x : Ent) : ∃ y, lineE x = y ++ [32] := ⟨itoa x.day ++ 32 :: (itoa x.kind ++ 32 :: by_ x.name), by unfold lineE; simp⟩
theorem noB_rev {c : UInt8} {l : List UInt8} (h : noB c l) : noB c l.reverse := fun b hb => h b (List.mem_reverse.1 hb)
theorem last_uniq {c : UInt8} {a b u v : List UInt8} (hu : noB c u) (hv : noB c v) (h : a ++ c :: u = b ++ c :: v) : a = b ∧ u = v := by
  have h2 := congrArg List.reverse h
  simp only [List.reverse_append, List.reverse_cons, List.append_assoc, List.singleton_append] at h2
  obtain ⟨h3, h4⟩ := part_uniq (noB_rev hu) (noB_rev hv) h2
  exact ⟨List.reverse_inj.1 h4, List.reverse_inj.1 h3⟩
theorem line_uniq {y : Ent} {a u v : List UInt8} (hu : noB 32 u) (hv : noB 32 v) (h : (a ++ [32]) ++ u = lineE y ++ v) : a ++ [32] = lineE y ∧ u = v := by
  obtain ⟨b, hb⟩ := line_end y
  rw [hb] at h ⊢
  simp only [List.append_assoc, List.singleton_append] at h
  obtain ⟨h1, h2⟩ := last_uniq hu hv h
  exact ⟨by rw [h1], h2⟩
theorem enc_10 : ∀ (l : List Ent) (p : List UInt8), (∀ x ∈ l, WordsOk x) → (encF p l).count 10 = p.count 10 + l.length
  | [], p, _ => by simp [encF]
  | x :: l, p, h => by
    show (encF (p ++ recE p x) l).count 10 = _
    rw [enc_10 l _ (fun y hy => h y (by simp [hy])), List.count_append, rec_10 p (h x (by simp))]
    simp only [List.length_cons]
    omega
theorem rec_take {x : Ent} (p : List UInt8) (h : WordsOk x) {k : Nat} (hk : k < (recE p x).length) : noB 10 ((recE p x).take k) := by
  have e : recE p x = (lineE x ++ decDigits (sumF (sumB p) (lineE x))) ++ [10] := by unfold recE; simp
  rw [e] at hk ⊢
  rw [List.length_append, List.length_singleton] at hk
  rw [List.take_append_of_le_length (by omega)]
  have := noB_app.2 ⟨line_noB h, dec_noB (c := 10) (by decide) (sumF (sumB p) (lineE x))⟩
  exact fun b hb => this b (List.mem_of_mem_take hb)
theorem enc_at : ∀ (l : List Ent) (p : List UInt8) (k : Nat), (∀ x ∈ l, WordsOk x) → p.length ≤ k → k < (encF p l).length →
    ∃ i x u j, i < l.length ∧ WordsOk x ∧ j < (recE (encF p (l.take i)) x).length ∧ k = (encF p (l.take i)).length + j ∧ encF p l = encF p (l.take i) ++ (recE (encF p (l.take i)) x ++ u) ∧ (u = [] ∨ ∃ q y u', WordsOk y ∧ u = recE q y ++ u')
  | [], p, k, _, h1, h2 => by
    have : (encF p []).length = p.length := rfl
    omega
  | x :: l, p, k, h, h1, h2 => by
    have h2' : k < (encF (p ++ recE p x) l).length := h2
    have e0 : encF p (x :: l) = encF (p ++ recE p x) l := rfl
    by_cases hk : (p ++ recE p x).length ≤ k
    · obtain ⟨i, y, u, j, g1, g2, g3, g4, g5, g6⟩ := enc_at l (p ++ recE p x) k (fun y hy => h y (by simp [hy])) hk h2'
      refine ⟨i + 1, y, u, j, by simp; omega, g2, g3, g4, ?_, g6⟩
      rw [e0, g5]
      rfl
    · rw [List.length_append] at hk
      obtain ⟨u, hu⟩ := encF_pre l (p ++ recE p x)
      refine ⟨0, x, u, k - p.length, by simp, h x (by simp), ?_, ?_, ?_, ?_⟩
      · show k - p.length < (recE p x).length
        omega
      · show k = p.length + (k - p.length)
        omega
      · show encF (p ++ recE p x) l = p ++ (recE p x ++ u)
        rw [hu, List.append_assoc]
      · cases l with
        | nil =>
          left
          have : p ++ recE p x = (p ++ recE p x) ++ u := hu
          exact List.self_eq_append_right.1 this
        | cons y m =>
          right
          obtain ⟨v, hv⟩ := encF_pre m ((p ++ recE p x) ++ recE (p ++ recE p x) y)
          have h3 : encF ((p ++ recE p x) ++ recE (p ++ recE p x) y) m = (p ++ recE p x) ++ u := hu
          rw [hv, List.append_assoc] at h3
          exact ⟨_, y, v, h y (by simp), (List.append_cancel_left h3).symm⟩
theorem enc_begin {l : List Ent} {k : Nat} (h : ∀ x ∈ l, WordsOk x) (hk : k ≤ (encJ l).length) : ∃ i t, i ≤ l.length ∧ (encJ l).take k = encJ (l.take i) ++ t ∧ noB 10 t ∧ (encJ (l.take i)).length + t.length = k ∧ ((encJ l).take k).count 10 = i ∧ (∃ u, encJ l = encJ (l.take i) ++ u) := by
  have key : ∃ i t, i ≤ l.length ∧ (encJ l).take k = encJ (l.take i) ++ t ∧ noB 10 t ∧ (∃ u, encJ l = encJ (l.take i) ++ u) := by
    rcases Nat.lt_or_ge k (encJ l).length with q | q
    · obtain ⟨i, x, u, j, g1, g2, g3, g4, g5, g6⟩ := enc_at l [] k h (Nat.zero_le _) q
      refine ⟨i, (recE (encF [] (l.take i)) x).take j, by omega, ?_, rec_take _ g2 g3, _, g5⟩
      show (encF [] l).take k = encF [] (l.take i) ++ _
      rw [g5, g4, List.take_append, List.take_of_length_le (by omega), show (encF [] (l.take i)).length + j - (encF [] (l.take i)).length = j by omega, List.take_append_of_le_length (by omega)]
    · refine ⟨l.length, [], Nat.le_refl _, ?_, noB_nil _, [], ?_⟩
      · rw [List.take_of_length_le q, List.take_length, List.append_nil]
      · rw [List.take_length, List.append_nil]
  obtain ⟨i, t, g1, g2, g3, g4⟩ := key
  refine ⟨i, t, g1, g2, g3, ?_, ?_, g4⟩
  · have := congrArg List.length g2
    rw [List.length_take, List.length_append] at this
    omega
  · rw [g2, List.count_append, count_no g3, enc_10 _ _ (fun x hx => h x (List.mem_of_mem_take hx)), List.length_take]
    simp
    omega
theorem logV_words {l : List Ent} (h : logV l = true) : ∀ x ∈ l, WordsOk x := fun x hx => WordsOk.of (logV_ent h hx)
theorem logV_take {l : List Ent} (h : logV l = true) (i : Nat) : logV (l.take i) = true := logV_pre (m := l.drop i) (by rw [List.take_append_drop]; exact h)
theorem good_begin {l : List Ent} {k : Nat} (h : logV l = true) (hk : k ≤ (encJ l).length) : ∃ i e, i ≤ l.length ∧ goodJ ((encJ l).take k) = (l.take i, (encJ (l.take i)).length, e) ∧ ((encJ l).take k).count 10 = i ∧ (encJ (l.take i)).length ≤ k ∧ (e = 0 ↔ (encJ (l.take i)).length = k) ∧ (∃ u, encJ l = encJ (l.take i) ++ u) := by
  obtain ⟨i, t, g1, g2, g3, g4, g5, g6⟩ := enc_begin (logV_words h) hk
  by_cases ht : t = []
  · subst ht
    refine ⟨i, 0, g1, ?_, g5, by simp at g4; omega, ⟨fun _ => by simpa using g4, fun _ => rfl⟩, g6⟩
    rw [g2]
    exact goodJ_of (logV_take h i) (.inl ⟨rfl, rfl⟩)
  · have h1 : 1 ≤ t.length := List.length_pos_iff.2 ht
    refine ⟨i, 7, g1, ?_, g5, by omega, ⟨(fun q => by cases q), (fun q => by omega)⟩, g6⟩
    rw [g2]
    refine goodJ_of (logV_take h i) (.inr ⟨ht, ?_⟩)
    unfold nextJ
    rw [entO_none g3]
theorem chg_next {p : List UInt8} {l : List Ent} {x : Ent} {u : List UInt8} {j : Nat} {c' : UInt8} (hw : WordsOk x) (hj : j < (recE p x).length) (hc : (recE p x)[j] ≠ c') (hu : u = [] ∨ ∃ q y u', WordsOk y ∧ u = recE q y ++ u') {y : Ent} {n : Nat} (h : nextJ p l ((recE p x).set j c' ++ u) = .ok (y, n)) : False := by
  obtain ⟨_, ⟨t, ht⟩, hy, _⟩ := nextJ_ok h
  clear h
  obtain ⟨D, hD⟩ : ∃ D, decDigits (sumF (sumB p) (lineE x)) = D := ⟨_, rfl⟩
  obtain ⟨D', hD'⟩ : ∃ D', decDigits (sumF (sumB p) (lineE y)) = D' := ⟨_, rfl⟩
  have nD : noB 32 D ∧ noB 10 D := by rw [← hD]; exact ⟨dec_noB (by decide) _, dec_noB (by decide) _⟩
  have nD' : noB 32 D' ∧ noB 10 D' := by rw [← hD']; exact ⟨dec_noB (by decide) _, dec_noB (by decide) _⟩
  have eR : recE p x = (lineE x ++ D) ++ [10] := by unfold recE; rw [hD]; simp
  have eR' : recE p y ++ t = (lineE y ++ D') ++ 10 :: t := by unfold recE; rw [hD']; simp
  have nR' : noB 10 (lineE y ++ D') := noB_app.2 ⟨line_noB hy, nD'.2⟩
  have nR : noB 10 (lineE x ++ D) := noB_app.2 ⟨line_noB hw, nD.2⟩
  have kR : (lineE x ++ D).count 32 = 3 := by rw [List.count_append, line_32 hw, count_no nD.1]
  have kR' : (lineE y ++ D').count 32 = 3 := by rw [List.count_append, line_32 hy, count_no nD'.1]
  rw [eR'] at ht
  have same : lineE x = lineE y → D = D' := fun e => by rw [← hD, ← hD', e]
  rw [List.getElem_of_eq eR] at hc
  rw [eR] at ht
  have hj' : j < (lineE x ++ D).length + 1 := by rw [eR, List.length_append, List.length_singleton] at hj; exact hj
  by_cases hjl : j = (lineE x ++ D).length
  · subst hjl
    rw [List.getElem_concat_length rfl] at hc
    have e1 : ((lineE x ++ D) ++ [10]).set (lineE x ++ D).length c' = (lineE x ++ D) ++ [c'] := by
      rw [List.set_append_right _ _ (Nat.le_refl _), Nat.sub_self]
      rfl
    rw [e1] at ht
    rcases hu with rfl | ⟨q, z, u', hz, rfl⟩
    · have : noB 10 ((lineE x ++ D) ++ [c'] ++ []) := by
        rw [List.append_nil, noB_app, noB_cons]
        exact ⟨nR, hc.symm, noB_nil _⟩
      rw [ht] at this
      exact (noB_cons.1 (noB_app.1 this).2).1 rfl
    · have e2 : recE q z = (lineE z ++ decDigits (sumF (sumB q) (lineE z))) ++ [10] := by unfold recE; simp
      have e3 : (lineE x ++ D) ++ [c'] ++ (recE q z ++ u') = ((lineE x ++ D) ++ c' :: (lineE z ++ decDigits (sumF (sumB q) (lineE z)))) ++ 10 :: u' := by rw [e2]; simp
      rw [e3] at ht
      obtain ⟨h1, _⟩ := part_uniq (noB_app.2 ⟨nR, noB_cons.2 ⟨hc.symm, noB_app.2 ⟨line_noB hz, dec_noB (by decide) _⟩⟩⟩) nR' ht
      have h2 := congrArg (List.count 32) h1
      rw [List.count_append, kR, List.count_cons, List.count_append, line_32 hz, kR'] at h2
      omega
  · have hlt : j < (lineE x ++ D).length := by omega
    rw [List.getElem_append_left hlt] at hc
    rw [List.set_append_left _ _ hlt] at ht
    obtain ⟨a, b, r, hab, haj, hb, hset⟩ : ∃ a b r, lineE x ++ D = a ++ b :: r ∧ a.length = j ∧ b ≠ c' ∧ (lineE x ++ D).set j c' = a ++ c' :: r := by
      refine ⟨(lineE x ++ D).take j, (lineE x ++ D)[j], (lineE x ++ D).drop (j + 1), ?_, by rw [List.length_take]; omega, hc, ?_⟩
      · rw [← List.drop_eq_getElem_cons hlt, List.take_append_drop]
      · rw [List.set_eq_take_append_cons_drop, if_pos hlt]
    rw [hset] at ht
    have kA : a.count 32 + ((if b = 32 then 1 else 0) + r.count 32) = 3 := by
      rw [← kR, hab, List.count_append, List.count_cons]
      simp [Nat.add_comm]
    by_cases h10 : c' = 10
    · subst h10
      have e1 : a ++ 10 :: r ++ [10] ++ u = a ++ 10 :: (r ++ [10] ++ u) := by simp
      rw [e1] at ht
      have nA : noB 10 a := by rw [hab] at nR; exact (noB_app.1 nR).1
      obtain ⟨h1, _⟩ := part_uniq nA nR' ht
      have h2 : a.count 32 = 3 := by rw [h1, kR']
      have h3 : b ≠ 32 ∧ r.count 32 = 0 := by
        by_cases q : b = 32
        · rw [if_pos q] at kA; omega
        · exact ⟨q, by omega⟩
      have h4 : lineE x ++ D = lineE y ++ (D' ++ b :: r) := by rw [hab, h1]; simp
      obtain ⟨v, hv⟩ := line_end x
      have h5 := hv ▸ h4
      obtain ⟨h6, h7⟩ := line_uniq nD.1 (noB_app.2 ⟨nD'.1, noB_cons.2 ⟨h3.1, no_count h3.2⟩⟩) h5
      have h8 := same (hv.trans h6)
      have h9 := congrArg List.length h7
      rw [h8] at h9
      simp at h9
    · have e1 : a ++ c' :: r ++ [10] ++ u = (a ++ c' :: r) ++ 10 :: u := by simp
      rw [e1] at ht
      have nB := nR
      rw [hab, noB_app, noB_cons] at nB
      obtain ⟨h1, _⟩ := part_uniq (noB_app.2 ⟨nB.1, noB_cons.2 ⟨h10, nB.2.2⟩⟩) nR' ht
      have kB : a.count 32 + ((if c' = 32 then 1 else 0) + r.count 32) = 3 := by
        rw [← kR', ← h1, List.count_append, List.count_cons]
        simp [Nat.add_comm]
      have h32 : b ≠ 32 ∧ c' ≠ 32 := by
        by_cases q : b = 32
        · by_cases q2 : c' = 32
          · exact absurd (q.trans q2.symm) hb
          · rw [if_pos q] at kA
            rw [if_neg q2] at kB
            omega
        · by_cases q2 : c' = 32
          · rw [if_neg q] at kA
            rw [if_pos q2] at kB
            omega
          · exact ⟨q, q2⟩
      obtain ⟨v, hv⟩ := line_end x
      rcases Nat.lt_or_ge j (lineE x).length with q | q
      · -- within the words
        obtain ⟨l2, hl2⟩ : ∃ l2, lineE x = a ++ b :: l2 ∧ r = l2 ++ D := by
          have h3 : (lineE x ++ D).take j = a := by rw [hab, List.take_left' haj]
          rw [List.take_append_of_le_length (by omega)] at h3
          have h4 : (lineE x).drop j ≠ [] := by
            intro h
            have := congrArg List.length h
            rw [List.length_drop] at this
            simp at this
            omega
          obtain ⟨b2, l2, h5⟩ := List.exists_cons_of_ne_nil h4
          have h6 : lineE x = a ++ b2 :: l2 := by rw [← h3, ← h5, List.take_append_drop]
          rw [h6, List.append_assoc] at hab
          have h7 := List.append_cancel_left hab
          simp only [List.cons_append, List.cons.injEq] at h7
          obtain ⟨rfl, h8⟩ := h7
          exact ⟨l2, h6, h8.symm⟩
        obtain ⟨h3, h4⟩ := hl2
        obtain ⟨l3, hl3⟩ : ∃ l3, l2 = l3 ++ [32] := by
          have h5 : v ++ [32] = a ++ b :: l2 := hv.symm.trans h3
          rcases List.eq_nil_or_concat l2 with rfl | ⟨l3, e, q0⟩
          · have := List.append_inj_right' h5 (by simp)
            simp only [List.cons.injEq, and_true] at this
            exact absurd this.symm h32.1
          · rw [List.concat_eq_append] at q0
            subst q0
            have h6 : v ++ [32] = (a ++ b :: l3) ++ [e] := by rw [h5]; simp
            have := List.append_inj_right' h6 (by simp)
            simp only [List.cons.injEq, and_true] at this
            exact ⟨l3, by rw [this]⟩
        have h5 : ((a ++ c' :: l3) ++ [32]) ++ D = lineE y ++ D' := by
          rw [← h1, h4, hl3]
          simp
        obtain ⟨h6, h7⟩ := line_uniq nD.1 nD'.1 h5
        rw [← hD, ← hD'] at h7
        have h8 := dec_inj h7
        have h9 : lineE y = a ++ c' :: l2 := by rw [← h6, hl3]; simp
        rw [h3, h9] at h8
        exact hb (sumF_chg a l2 b c' h8)
      · -- within the sum
        obtain ⟨d1, hd1⟩ : ∃ d1, D = d1 ++ b :: r ∧ a = lineE x ++ d1 := by
          have h3 : (lineE x ++ D).take j = a := by rw [hab, List.take_left' haj]
          have h4 : (lineE x ++ D).drop j = b :: r := by rw [hab, List.drop_left' haj]
          rw [List.take_append, List.take_of_length_le q] at h3
          rw [List.drop_append, List.drop_eq_nil_of_le q, List.nil_append] at h4
          refine ⟨D.take (j - (lineE x).length), ?_, h3.symm⟩
          rw [← h4, List.take_append_drop]
        obtain ⟨h3, h4⟩ := hd1
        have nd : noB 32 (d1 ++ c' :: r) := by
          have := nD.1
          rw [h3, noB_app, noB_cons] at this
          exact noB_app.2 ⟨this.1, noB_cons.2 ⟨h32.2, this.2.2⟩⟩
        have h5 : (v ++ [32]) ++ (d1 ++ c' :: r) = lineE y ++ D' := by
          rw [← hv, ← h1, h4]
          simp
        obtain ⟨h6, h7⟩ := line_uniq nd nD'.1 h5
        have h8 := same (hv.trans h6)
        rw [← h7, h3] at h8
        have h9 := List.append_cancel_left h8
        simp only [List.cons.injEq, and_true] at h9
        exact hb h9
theorem good_chg {l : List Ent} {k : Nat} {c' : UInt8} (h : logV l = true) (hk : k < (encJ l).length) (hc : (encJ l)[k] ≠ c') : ∃ i e, i ≤ l.length ∧ goodJ ((encJ l).set k c') = (l.take i, (encJ (l.take i)).length, e) ∧ e ≠ 0 ∧ ((encJ l).take k).count 10 = i ∧ (encJ (l.take i)).length ≤ k ∧ ((encJ l).set k c').take (encJ (l.take i)).length = encJ (l.take i) ∧ (encJ l).take (encJ (l.take i)).length = encJ (l.take i) := by
  have hws := logV_words h
  obtain ⟨i, x, u, j, g1, g2, g3, g4, g5, g6⟩ := enc_at l [] k hws (Nat.zero_le _) hk
  obtain ⟨p, hp⟩ : ∃ p, encF [] (l.take i) = p := ⟨_, rfl⟩
  have hp' : encJ (l.take i) = p := hp
  rw [hp] at g3 g4 g5
  have e0 : encJ l = p ++ (recE p x ++ u) := g5
  have hset : (encJ l).set k c' = p ++ ((recE p x).set j c' ++ u) := by
    rw [e0, g4, List.set_append_right _ _ (by omega), show p.length + j - p.length = j by omega, List.set_append_left _ _ g3]
  have hne : (recE p x)[j] ≠ c' := by
    rw [List.getElem_of_eq e0, List.getElem_append_right (by omega)] at hc
    rw [List.getElem_append_left (by omega)] at hc
    have e : k - p.length = j := by omega
    simpa only [e] using hc
  have hstop : ∃ e, e ≠ 0 ∧ nextJ p (l.take i) ((recE p x).set j c' ++ u) = .error e := by
    cases hn : nextJ p (l.take i) ((recE p x).set j c' ++ u) with
    | error e => exact ⟨e, nextJ_err hn, rfl⟩
    | ok r => exact absurd hn (fun hn => chg_next g2 g3 hne g6 (y := r.1) (n := r.2) hn)
  obtain ⟨e, he, hn⟩ := hstop
  have hnn : (recE p x).set j c' ++ u ≠ [] := by
    intro q
    have := congrArg List.length q
    rw [List.length_append, List.length_set, List.length_nil] at this
    omega
  refine ⟨i, e, by omega, ?_, he, ?_, ?_, ?_, ?_⟩
  · rw [hset, ← hp']
    refine goodJ_of (logV_take h i) (.inr ⟨by rw [hp']; exact hnn, ?_⟩)
    rw [hp']
    exact hn
  · obtain ⟨i2, t2, _, q2, q3, _, q5, _⟩ := enc_begin hws (k := k) (by omega)
    rw [e0, g4, List.take_append, List.take_of_length_le (by omega), show p.length + j - p.length = j by omega, List.take_append_of_le_length (by omega), List.count_append, count_no (rec_take p g2 g3), ← hp, enc_10 _ _ (fun y hy => hws y (List.mem_of_mem_take hy)), List.length_take]
    simp
    omega
  · rw [hp', g4]; exact Nat.le_add_right _ _
  · rw [hp', hset, List.take_left]
  · rw [hp', e0, List.take_left]
end Go.Proofs.YtcokobdffbhpeaaGreatDoor
set_option linter.unusedVariables false
namespace Go.Proofs.YtcokobdffbhpeaaGreatDoor
open Go.ChangeShapes Go.WideShapes Go.ChangeAt Go.RowKit
def playF : List Ent → St → Int × St
  | [], s => (0, s)
  | x :: l, s => if (doS s x).1 = 0 then playF l (doS s x).2 else ((doS s x).1, s)
theorem playF_go {x : Ent} {l : List Ent} {s : St} (h : (doS s x).1 = 0) : playF (x :: l) s = playF l (doS s x).2 := by rw [playF, if_pos h]
theorem playF_stop {x : Ent} {l : List Ent} {s : St} (h : (doS s x).1 ≠ 0) : playF (x :: l) s = ((doS s x).1, s) := by rw [playF, if_neg h]
theorem playF_app : ∀ (l m : List Ent) (s t : St), playF l s = (0, t) → playF (l ++ m) s = playF m t
  | [], m, s, t, h => by
    have h2 : s = t := by
      have := congrArg Prod.snd h
      exact this
    rw [List.nil_append, h2]
  | x :: l, m, s, t, h => by
    by_cases hx : (doS s x).1 = 0
    · rw [playF_go hx] at h
      rw [List.cons_append, playF_go hx]
      exact playF_app l m _ t h
    · rw [playF_stop hx] at h
      exact absurd (congrArg Prod.fst h) hx
theorem playF_pre : ∀ (l m : List Ent) (s t : St), playF (l ++ m) s = (0, t) → ∃ u, playF l s = (0, u)
  | [], m, s, t, h => ⟨s, rfl⟩
  | x :: l, m, s, t, h => by
    by_cases hx : (doS s x).1 = 0
    · rw [List.cons_append, playF_go hx] at h
      rw [playF_go hx]
      exact playF_pre l m _ t h
    · rw [List.cons_append, playF_stop hx] at h
      exact absurd (congrArg Prod.fst h) hx
theorem playF_kept : ∀ (l : List Ent) (s t : St), playF l s = (0, t) → t.kept = s.kept ++ l
  | [], s, t, h => by
    have h2 : s = t := congrArg Prod.snd h
    rw [h2, List.append_nil]
  | x :: l, s, t, h => by
    by_cases hx : (doS s x).1 = 0
    · rw [playF_go hx] at h
      rw [playF_kept l _ t h, doS_kept hx, List.append_assoc]
      rfl
    · rw [playF_stop hx] at h
      exact absurd (congrArg Prod.fst h) hx
theorem playF_ok : ∀ (l : List Ent) (s : St), s.ok → (∀ x ∈ l, x.name.size ≤ 60) → (playF l s).2.ok
  | [], s, h, _ => h
  | x :: l, s, h, hz => by
    by_cases hx : (doS s x).1 = 0
    · rw [playF_go hx]
      exact playF_ok l _ (doS_ok s h x (hz x (by simp))) (fun y hy => hz y (by simp [hy]))
    · rw [playF_stop hx]
      exact h
def runF : List Ent → St → St
  | [], s => s
  | x :: l, s => runF l (doS s x).2
theorem last_le {l : List Ent} (h : l.Pairwise fun a b => a.day ≤ b.day) {a : Ent} (ha : a ∈ l) : a.day ≤ lastDay l := by
  rcases List.eq_nil_or_concat l with rfl | ⟨l', z, q⟩
  · cases ha
  · rw [List.concat_eq_append] at q
    subst q
    have e : lastDay (l' ++ [z]) = z.day := by unfold lastDay; simp
    rw [e]
    rw [List.pairwise_append] at h
    rcases List.mem_append.1 ha with q | q
    · exact h.2.2 a q z (by simp)
    · rw [List.mem_singleton] at q
      rw [q]
      exact Int.le_refl _
theorem logV_snoc {l : List Ent} {x : Ent} (h : logV l = true) (hx : logV [x] = true) (hl : l.length < 1000) (hd : ¬ (0 < l.length ∧ x.day < lastDay l)) : logV (l ++ [x]) = true := by
  unfold logV at h hx ⊢
  simp only [Bool.and_eq_true, decide_eq_true_eq] at h hx ⊢
  refine ⟨⟨by simp; omega, ?_⟩, ?_⟩
  · rw [List.all_append, h.1.2, hx.1.2]
    rfl
  · rw [List.pairwise_append]
    refine ⟨h.2, List.pairwise_singleton _ _, fun a ha b hb => ?_⟩
    rw [List.mem_singleton] at hb
    subst hb
    have h1 := last_le h.2 ha
    have h2 : 0 < l.length := List.length_pos_of_mem ha
    omega
theorem given_day {s : St} {x : Ent} (h : givenS s x = 0) : ¬ (0 < s.kept.length ∧ x.day < lastDay s.kept) := by
  intro hd
  unfold givenS at h
  split at h
  · cases h
  split at h
  · cases h
  first
    | exact absurd h (by decide)
    | (rw [if_pos hd] at h; cases h)
structure Kept (s0 s : St) (n : Nat) : Prop where
  play : playF s.kept s0 = (0, s)
  val : logV s.kept = true
  len : s.kept.length ≤ n
theorem Kept.start {s0 : St} (h : s0.kept = []) : Kept s0 s0 0 := ⟨by rw [h]; rfl, by rw [h]; rfl, by rw [h]; exact Nat.le_refl _⟩
theorem Kept.step {s0 s : St} {n : Nat} (h : Kept s0 s n) (x : Ent) : Kept s0 (doS s x).2 (n + 1) := by
  by_cases hx : (doS s x).1 = 0
  · have hk := doS_kept hx
    have hg := (doS_yes hx).1
    refine ⟨?_, ?_, ?_⟩
    · rw [hk, playF_app _ _ _ _ h.play, playF_go hx]
      rfl
    · rw [hk]
      exact logV_snoc h.val (given_lt hg).2 (by have := (given_lt hg).1; omega) (given_day hg)
    · rw [hk, List.length_append, List.length_singleton]
      have := h.len
      omega
  · rw [doS_err hx]
    exact ⟨h.play, h.val, by have := h.len; omega⟩
theorem Kept.run {s0 : St} : ∀ (l : List Ent) (s : St) (n : Nat), Kept s0 s n → Kept s0 (runF l s) (n + l.length)
  | [], s, n, h => h
  | x :: l, s, n, h => by
    have := Kept.run l _ _ (h.step x)
    rw [List.length_cons, show n + (l.length + 1) = n + 1 + l.length by omega]
    exact this
end Go.Proofs.YtcokobdffbhpeaaGreatDoor
