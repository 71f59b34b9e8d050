/- journal: beginnings and changed bytes, clones, appends, the reference's reading, slices of entries (joined). -/
import Derived.Test.YtpocmijfkjjboaaGreatDoorMJo
import Derived.Test.YtpocmijfkjjboaaGreatDoorJoI
import Derived.Shelf.SlicesE.Clone
import Derived.Ground.SlgnProg
import Derived.Shelf.Lay
import Derived.Deep.Upon
import Derived.Lib.AppendStr

/- Plain: beginnings of journals; a byte of a journal changed; what is appended. -/
set_option linter.unusedVariables false
namespace Go.Proofs.YtpocmijfkjjboaaGreatDoor
open Go.ChangeShapes Go.WideShapes Go.ChangeAt Go.RowKit

open Go.Lib (decDigits itoa itoa_nonneg)
theorem count_no {c : UInt8} {l : List UInt8} (h : noB c l) : l.count c = 0 := List.count_eq_zero.2 (fun hm => h c hm rfl)
theorem no_count {c : UInt8} {l : List UInt8} (h : l.count c = 0) : noB c l := fun b hb e => List.count_eq_zero.1 h (e ▸ hb)
theorem line_32 {x : Ent} (h : WordsOk x) : (lineE x).count 32 = 3 := by
  have h1 := count_no (dec_noB (c := 32) (by decide) x.day.toNat)
  have h2 := count_no (dec_noB (c := 32) (by decide) x.kind.toNat)
  have h3 := count_no (name_noB h.nm).1
  unfold lineE
  rw [h.dayE, h.kindE]
  simp only [List.count_append, List.count_cons, h1, h2, h3, List.count_nil]
  rfl
theorem rec_10 {x : Ent} (p : List UInt8) (h : WordsOk x) : (recE p x).count 10 = 1 := by
  have h1 := count_no (line_noB h)
  have h2 := count_no (dec_noB (c := 10) (by decide) (sumF (sumB p) (lineE x)))
  unfold recE
  simp only [List.count_append, List.count_cons, h1, h2, List.count_nil]
  rfl
theorem line_end (x : Ent) : ∃ y, lineE x = y ++ [32] := ⟨itoa x.day ++ 32 :: (itoa x.kind ++ 32 :: by_ x.name), by unfold lineE; simp⟩
theorem noB_rev {c : UInt8} {l : List UInt8} (h : noB c l) : noB c l.reverse := fun b hb => h b (List.mem_reverse.1 hb)
theorem last_uniq {c : UInt8} {a b u v : List UInt8} (hu : noB c u) (hv : noB c v) (h : a ++ c :: u = b ++ c :: v) : a = b ∧ u = v := by
  have h2 := congrArg List.reverse h
  simp only [List.reverse_append, List.reverse_cons, List.append_assoc, List.singleton_append] at h2
  obtain ⟨h3, h4⟩ := part_uniq (noB_rev hu) (noB_rev hv) h2
  exact ⟨List.reverse_inj.1 h4, List.reverse_inj.1 h3⟩
theorem line_uniq {y : Ent} {a u v : List UInt8} (hu : noB 32 u) (hv : noB 32 v) (h : (a ++ [32]) ++ u = lineE y ++ v) : a ++ [32] = lineE y ∧ u = v := by
  obtain ⟨b, hb⟩ := line_end y
  rw [hb] at h ⊢
  simp only [List.append_assoc, List.singleton_append] at h
  obtain ⟨h1, h2⟩ := last_uniq hu hv h
  exact ⟨by rw [h1], h2⟩
theorem enc_10 : ∀ (l : List Ent) (p : List UInt8), (∀ x ∈ l, WordsOk x) → (encF p l).count 10 = p.count 10 + l.length
  | [], p, _ => by simp [encF]
  | x :: l, p, h => by
    show (encF (p ++ recE p x) l).count 10 = _
    rw [enc_10 l _ (fun y hy => h y (by simp [hy])), List.count_append, rec_10 p (h x (by simp))]
    simp only [List.length_cons]
    omega
theorem rec_take {x : Ent} (p : List UInt8) (h : WordsOk x) {k : Nat} (hk : k < (recE p x).length) : noB 10 ((recE p x).take k) := by
  have e : recE p x = (lineE x ++ decDigits (sumF (sumB p) (lineE x))) ++ [10] := by unfold recE; simp
  rw [e] at hk ⊢
  rw [List.length_append, List.length_singleton] at hk
  rw [List.take_append_of_le_length (by omega)]
  have := noB_app.2 ⟨line_noB h, dec_noB (c := 10) (by decide) (sumF (sumB p) (lineE x))⟩
  exact fun b hb => this b (List.mem_of_mem_take hb)
/-- Where a place in a journal lies. -/
theorem enc_at : ∀ (l : List Ent) (p : List UInt8) (k : Nat), (∀ x ∈ l, WordsOk x) → p.length ≤ k → k < (encF p l).length →
    ∃ i x u j, i < l.length ∧ WordsOk x ∧ j < (recE (encF p (l.take i)) x).length ∧ k = (encF p (l.take i)).length + j ∧ encF p l = encF p (l.take i) ++ (recE (encF p (l.take i)) x ++ u) ∧ (u = [] ∨ ∃ q y u', WordsOk y ∧ u = recE q y ++ u')
  | [], p, k, _, h1, h2 => by
    have : (encF p []).length = p.length := rfl
    omega
  | x :: l, p, k, h, h1, h2 => by
    have h2' : k < (encF (p ++ recE p x) l).length := h2
    have e0 : encF p (x :: l) = encF (p ++ recE p x) l := rfl
    by_cases hk : (p ++ recE p x).length ≤ k
    · obtain ⟨i, y, u, j, g1, g2, g3, g4, g5, g6⟩ := enc_at l (p ++ recE p x) k (fun y hy => h y (by simp [hy])) hk h2'
      refine ⟨i + 1, y, u, j, by simp; omega, g2, g3, g4, ?_, g6⟩
      rw [e0, g5]
      rfl
    · rw [List.length_append] at hk
      obtain ⟨u, hu⟩ := encF_pre l (p ++ recE p x)
      refine ⟨0, x, u, k - p.length, by simp, h x (by simp), ?_, ?_, ?_, ?_⟩
      · show k - p.length < (recE p x).length
        omega
      · show k = p.length + (k - p.length)
        omega
      · show encF (p ++ recE p x) l = p ++ (recE p x ++ u)
        rw [hu, List.append_assoc]
      · cases l with
        | nil =>
          left
          have : p ++ recE p x = (p ++ recE p x) ++ u := hu
          exact List.self_eq_append_right.1 this
        | cons y m =>
          right
          obtain ⟨v, hv⟩ := encF_pre m ((p ++ recE p x) ++ recE (p ++ recE p x) y)
          have h3 : encF ((p ++ recE p x) ++ recE (p ++ recE p x) y) m = (p ++ recE p x) ++ u := hu
          rw [hv, List.append_assoc] at h3
          exact ⟨_, y, v, h y (by simp), (List.append_cancel_left h3).symm⟩
/-- A beginning of a journal: whole records, and no whole one behind them. -/
theorem enc_begin {l : List Ent} {k : Nat} (h : ∀ x ∈ l, WordsOk x) (hk : k ≤ (encJ l).length) : ∃ i t, i ≤ l.length ∧ (encJ l).take k = encJ (l.take i) ++ t ∧ noB 10 t ∧ (encJ (l.take i)).length + t.length = k ∧ ((encJ l).take k).count 10 = i ∧ (∃ u, encJ l = encJ (l.take i) ++ u) := by
  have key : ∃ i t, i ≤ l.length ∧ (encJ l).take k = encJ (l.take i) ++ t ∧ noB 10 t ∧ (∃ u, encJ l = encJ (l.take i) ++ u) := by
    rcases Nat.lt_or_ge k (encJ l).length with q | q
    · obtain ⟨i, x, u, j, g1, g2, g3, g4, g5, g6⟩ := enc_at l [] k h (Nat.zero_le _) q
      refine ⟨i, (recE (encF [] (l.take i)) x).take j, by omega, ?_, rec_take _ g2 g3, _, g5⟩
      show (encF [] l).take k = encF [] (l.take i) ++ _
      rw [g5, g4, List.take_append, List.take_of_length_le (by omega), show (encF [] (l.take i)).length + j - (encF [] (l.take i)).length = j by omega, List.take_append_of_le_length (by omega)]
    · refine ⟨l.length, [], Nat.le_refl _, ?_, noB_nil _, [], ?_⟩
      · rw [List.take_of_length_le q, List.take_length, List.append_nil]
      · rw [List.take_length, List.append_nil]
  obtain ⟨i, t, g1, g2, g3, g4⟩ := key
  refine ⟨i, t, g1, g2, g3, ?_, ?_, g4⟩
  · have := congrArg List.length g2
    rw [List.length_take, List.length_append] at this
    omega
  · rw [g2, List.count_append, count_no g3, enc_10 _ _ (fun x hx => h x (List.mem_of_mem_take hx)), List.length_take]
    simp
    omega
theorem logV_words {l : List Ent} (h : logV l = true) : ∀ x ∈ l, WordsOk x := fun x hx => WordsOk.of (logV_ent h hx)
theorem logV_take {l : List Ent} (h : logV l = true) (i : Nat) : logV (l.take i) = true := logV_pre (m := l.drop i) (by rw [List.take_append_drop]; exact h)
theorem good_begin {l : List Ent} {k : Nat} (h : logV l = true) (hk : k ≤ (encJ l).length) : ∃ i e, i ≤ l.length ∧ goodJ ((encJ l).take k) = (l.take i, (encJ (l.take i)).length, e) ∧ ((encJ l).take k).count 10 = i ∧ (encJ (l.take i)).length ≤ k ∧ (e = 0 ↔ (encJ (l.take i)).length = k) ∧ (∃ u, encJ l = encJ (l.take i) ++ u) := by
  obtain ⟨i, t, g1, g2, g3, g4, g5, g6⟩ := enc_begin (logV_words h) hk
  by_cases ht : t = []
  · subst ht
    refine ⟨i, 0, g1, ?_, g5, by simp at g4; omega, ⟨fun _ => by simpa using g4, fun _ => rfl⟩, g6⟩
    rw [g2]
    exact goodJ_of (logV_take h i) (.inl ⟨rfl, rfl⟩)
  · have h1 : 1 ≤ t.length := List.length_pos_iff.2 ht
    refine ⟨i, 7, g1, ?_, g5, by omega, ⟨(fun q => by cases q), (fun q => by omega)⟩, g6⟩
    rw [g2]
    refine goodJ_of (logV_take h i) (.inr ⟨ht, ?_⟩)
    unfold nextJ
    rw [entO_none g3]
/-- A record of which a byte is changed is none. -/
theorem chg_next {p : List UInt8} {l : List Ent} {x : Ent} {u : List UInt8} {j : Nat} {c' : UInt8} (hw : WordsOk x) (hj : j < (recE p x).length) (hc : (recE p x)[j] ≠ c') (hu : u = [] ∨ ∃ q y u', WordsOk y ∧ u = recE q y ++ u') {y : Ent} {n : Nat} (h : nextJ p l ((recE p x).set j c' ++ u) = .ok (y, n)) : False := by
  obtain ⟨_, ⟨t, ht⟩, hy, _⟩ := nextJ_ok h
  clear h
  obtain ⟨D, hD⟩ : ∃ D, decDigits (sumF (sumB p) (lineE x)) = D := ⟨_, rfl⟩
  obtain ⟨D', hD'⟩ : ∃ D', decDigits (sumF (sumB p) (lineE y)) = D' := ⟨_, rfl⟩
  have nD : noB 32 D ∧ noB 10 D := by rw [← hD]; exact ⟨dec_noB (by decide) _, dec_noB (by decide) _⟩
  have nD' : noB 32 D' ∧ noB 10 D' := by rw [← hD']; exact ⟨dec_noB (by decide) _, dec_noB (by decide) _⟩
  have eR : recE p x = (lineE x ++ D) ++ [10] := by unfold recE; rw [hD]; simp
  have eR' : recE p y ++ t = (lineE y ++ D') ++ 10 :: t := by unfold recE; rw [hD']; simp
  have nR' : noB 10 (lineE y ++ D') := noB_app.2 ⟨line_noB hy, nD'.2⟩
  have nR : noB 10 (lineE x ++ D) := noB_app.2 ⟨line_noB hw, nD.2⟩
  have kR : (lineE x ++ D).count 32 = 3 := by rw [List.count_append, line_32 hw, count_no nD.1]
  have kR' : (lineE y ++ D').count 32 = 3 := by rw [List.count_append, line_32 hy, count_no nD'.1]
  rw [eR'] at ht
  have same : lineE x = lineE y → D = D' := fun e => by rw [← hD, ← hD', e]
  rw [List.getElem_of_eq eR] at hc
  rw [eR] at ht
  have hj' : j < (lineE x ++ D).length + 1 := by rw [eR, List.length_append, List.length_singleton] at hj; exact hj
  by_cases hjl : j = (lineE x ++ D).length
  · subst hjl
    rw [List.getElem_concat_length rfl] at hc
    have e1 : ((lineE x ++ D) ++ [10]).set (lineE x ++ D).length c' = (lineE x ++ D) ++ [c'] := by
      rw [List.set_append_right _ _ (Nat.le_refl _), Nat.sub_self]
      rfl
    rw [e1] at ht
    rcases hu with rfl | ⟨q, z, u', hz, rfl⟩
    · have : noB 10 ((lineE x ++ D) ++ [c'] ++ []) := by
        rw [List.append_nil, noB_app, noB_cons]
        exact ⟨nR, hc.symm, noB_nil _⟩
      rw [ht] at this
      exact (noB_cons.1 (noB_app.1 this).2).1 rfl
    · have e2 : recE q z = (lineE z ++ decDigits (sumF (sumB q) (lineE z))) ++ [10] := by unfold recE; simp
      have e3 : (lineE x ++ D) ++ [c'] ++ (recE q z ++ u') = ((lineE x ++ D) ++ c' :: (lineE z ++ decDigits (sumF (sumB q) (lineE z)))) ++ 10 :: u' := by rw [e2]; simp
      rw [e3] at ht
      obtain ⟨h1, _⟩ := part_uniq (noB_app.2 ⟨nR, noB_cons.2 ⟨hc.symm, noB_app.2 ⟨line_noB hz, dec_noB (by decide) _⟩⟩⟩) nR' ht
      have h2 := congrArg (List.count 32) h1
      rw [List.count_append, kR, List.count_cons, List.count_append, line_32 hz, kR'] at h2
      omega
  · have hlt : j < (lineE x ++ D).length := by omega
    rw [List.getElem_append_left hlt] at hc
    rw [List.set_append_left _ _ hlt] at ht
    obtain ⟨a, b, r, hab, haj, hb, hset⟩ : ∃ a b r, lineE x ++ D = a ++ b :: r ∧ a.length = j ∧ b ≠ c' ∧ (lineE x ++ D).set j c' = a ++ c' :: r := by
      refine ⟨(lineE x ++ D).take j, (lineE x ++ D)[j], (lineE x ++ D).drop (j + 1), ?_, by rw [List.length_take]; omega, hc, ?_⟩
      · rw [← List.drop_eq_getElem_cons hlt, List.take_append_drop]
      · rw [List.set_eq_take_append_cons_drop, if_pos hlt]
    rw [hset] at ht
    have kA : a.count 32 + ((if b = 32 then 1 else 0) + r.count 32) = 3 := by
      rw [← kR, hab, List.count_append, List.count_cons]
      simp [Nat.add_comm]
    by_cases h10 : c' = 10
    · subst h10
      have e1 : a ++ 10 :: r ++ [10] ++ u = a ++ 10 :: (r ++ [10] ++ u) := by simp
      rw [e1] at ht
      have nA : noB 10 a := by rw [hab] at nR; exact (noB_app.1 nR).1
      obtain ⟨h1, _⟩ := part_uniq nA nR' ht
      have h2 : a.count 32 = 3 := by rw [h1, kR']
      have h3 : b ≠ 32 ∧ r.count 32 = 0 := by
        by_cases q : b = 32
        · rw [if_pos q] at kA; omega
        · exact ⟨q, by omega⟩
      have h4 : lineE x ++ D = lineE y ++ (D' ++ b :: r) := by rw [hab, h1]; simp
      obtain ⟨v, hv⟩ := line_end x
      have h5 := hv ▸ h4
      obtain ⟨h6, h7⟩ := line_uniq nD.1 (noB_app.2 ⟨nD'.1, noB_cons.2 ⟨h3.1, no_count h3.2⟩⟩) h5
      have h8 := same (hv.trans h6)
      have h9 := congrArg List.length h7
      rw [h8] at h9
      simp at h9
    · have e1 : a ++ c' :: r ++ [10] ++ u = (a ++ c' :: r) ++ 10 :: u := by simp
      rw [e1] at ht
      have nB := nR
      rw [hab, noB_app, noB_cons] at nB
      obtain ⟨h1, _⟩ := part_uniq (noB_app.2 ⟨nB.1, noB_cons.2 ⟨h10, nB.2.2⟩⟩) nR' ht
      have kB : a.count 32 + ((if c' = 32 then 1 else 0) + r.count 32) = 3 := by
        rw [← kR', ← h1, List.count_append, List.count_cons]
        simp [Nat.add_comm]
      have h32 : b ≠ 32 ∧ c' ≠ 32 := by
        by_cases q : b = 32
        · by_cases q2 : c' = 32
          · exact absurd (q.trans q2.symm) hb
          · rw [if_pos q] at kA
            rw [if_neg q2] at kB
            omega
        · by_cases q2 : c' = 32
          · rw [if_neg q] at kA
            rw [if_pos q2] at kB
            omega
          · exact ⟨q, q2⟩
      obtain ⟨v, hv⟩ := line_end x
      rcases Nat.lt_or_ge j (lineE x).length with q | q
      · -- within the words
        obtain ⟨l2, hl2⟩ : ∃ l2, lineE x = a ++ b :: l2 ∧ r = l2 ++ D := by
          have h3 : (lineE x ++ D).take j = a := by rw [hab, List.take_left' haj]
          rw [List.take_append_of_le_length (by omega)] at h3
          have h4 : (lineE x).drop j ≠ [] := by
            intro h
            have := congrArg List.length h
            rw [List.length_drop] at this
            simp at this
            omega
          obtain ⟨b2, l2, h5⟩ := List.exists_cons_of_ne_nil h4
          have h6 : lineE x = a ++ b2 :: l2 := by rw [← h3, ← h5, List.take_append_drop]
          rw [h6, List.append_assoc] at hab
          have h7 := List.append_cancel_left hab
          simp only [List.cons_append, List.cons.injEq] at h7
          obtain ⟨rfl, h8⟩ := h7
          exact ⟨l2, h6, h8.symm⟩
        obtain ⟨h3, h4⟩ := hl2
        obtain ⟨l3, hl3⟩ : ∃ l3, l2 = l3 ++ [32] := by
          have h5 : v ++ [32] = a ++ b :: l2 := hv.symm.trans h3
          rcases List.eq_nil_or_concat l2 with rfl | ⟨l3, e, q0⟩
          · have := List.append_inj_right' h5 (by simp)
            simp only [List.cons.injEq, and_true] at this
            exact absurd this.symm h32.1
          · rw [List.concat_eq_append] at q0
            subst q0
            have h6 : v ++ [32] = (a ++ b :: l3) ++ [e] := by rw [h5]; simp
            have := List.append_inj_right' h6 (by simp)
            simp only [List.cons.injEq, and_true] at this
            exact ⟨l3, by rw [this]⟩
        have h5 : ((a ++ c' :: l3) ++ [32]) ++ D = lineE y ++ D' := by
          rw [← h1, h4, hl3]
          simp
        obtain ⟨h6, h7⟩ := line_uniq nD.1 nD'.1 h5
        rw [← hD, ← hD'] at h7
        have h8 := dec_inj h7
        have h9 : lineE y = a ++ c' :: l2 := by rw [← h6, hl3]; simp
        rw [h3, h9] at h8
        exact hb (sumF_chg a l2 b c' h8)
      · -- within the sum
        obtain ⟨d1, hd1⟩ : ∃ d1, D = d1 ++ b :: r ∧ a = lineE x ++ d1 := by
          have h3 : (lineE x ++ D).take j = a := by rw [hab, List.take_left' haj]
          have h4 : (lineE x ++ D).drop j = b :: r := by rw [hab, List.drop_left' haj]
          rw [List.take_append, List.take_of_length_le q] at h3
          rw [List.drop_append, List.drop_eq_nil_of_le q, List.nil_append] at h4
          refine ⟨D.take (j - (lineE x).length), ?_, h3.symm⟩
          rw [← h4, List.take_append_drop]
        obtain ⟨h3, h4⟩ := hd1
        have nd : noB 32 (d1 ++ c' :: r) := by
          have := nD.1
          rw [h3, noB_app, noB_cons] at this
          exact noB_app.2 ⟨this.1, noB_cons.2 ⟨h32.2, this.2.2⟩⟩
        have h5 : (v ++ [32]) ++ (d1 ++ c' :: r) = lineE y ++ D' := by
          rw [← hv, ← h1, h4]
          simp
        obtain ⟨h6, h7⟩ := line_uniq nd nD'.1 h5
        have h8 := same (hv.trans h6)
        rw [← h7, h3] at h8
        have h9 := List.append_cancel_left h8
        simp only [List.cons.injEq, and_true] at h9
        exact hb h9
theorem good_chg {l : List Ent} {k : Nat} {c' : UInt8} (h : logV l = true) (hk : k < (encJ l).length) (hc : (encJ l)[k] ≠ c') : ∃ i e, i ≤ l.length ∧ goodJ ((encJ l).set k c') = (l.take i, (encJ (l.take i)).length, e) ∧ e ≠ 0 ∧ ((encJ l).take k).count 10 = i ∧ (encJ (l.take i)).length ≤ k ∧ ((encJ l).set k c').take (encJ (l.take i)).length = encJ (l.take i) ∧ (encJ l).take (encJ (l.take i)).length = encJ (l.take i) := by
  have hws := logV_words h
  obtain ⟨i, x, u, j, g1, g2, g3, g4, g5, g6⟩ := enc_at l [] k hws (Nat.zero_le _) hk
  obtain ⟨p, hp⟩ : ∃ p, encF [] (l.take i) = p := ⟨_, rfl⟩
  have hp' : encJ (l.take i) = p := hp
  rw [hp] at g3 g4 g5
  have e0 : encJ l = p ++ (recE p x ++ u) := g5
  have hset : (encJ l).set k c' = p ++ ((recE p x).set j c' ++ u) := by
    rw [e0, g4, List.set_append_right _ _ (by omega), show p.length + j - p.length = j by omega, List.set_append_left _ _ g3]
  have hne : (recE p x)[j] ≠ c' := by
    rw [List.getElem_of_eq e0, List.getElem_append_right (by omega)] at hc
    rw [List.getElem_append_left (by omega)] at hc
    have e : k - p.length = j := by omega
    simpa only [e] using hc
  have hstop : ∃ e, e ≠ 0 ∧ nextJ p (l.take i) ((recE p x).set j c' ++ u) = .error e := by
    cases hn : nextJ p (l.take i) ((recE p x).set j c' ++ u) with
    | error e => exact ⟨e, nextJ_err hn, rfl⟩
    | ok r => exact absurd hn (fun hn => chg_next g2 g3 hne g6 (y := r.1) (n := r.2) hn)
  obtain ⟨e, he, hn⟩ := hstop
  have hnn : (recE p x).set j c' ++ u ≠ [] := by
    intro q
    have := congrArg List.length q
    rw [List.length_append, List.length_set, List.length_nil] at this
    omega
  refine ⟨i, e, by omega, ?_, he, ?_, ?_, ?_, ?_⟩
  · rw [hset, ← hp']
    refine goodJ_of (logV_take h i) (.inr ⟨by rw [hp']; exact hnn, ?_⟩)
    rw [hp']
    exact hn
  · obtain ⟨i2, t2, _, q2, q3, _, q5, _⟩ := enc_begin hws (k := k) (by omega)
    rw [e0, g4, List.take_append, List.take_of_length_le (by omega), show p.length + j - p.length = j by omega, List.take_append_of_le_length (by omega), List.count_append, count_no (rec_take p g2 g3), ← hp, enc_10 _ _ (fun y hy => hws y (List.mem_of_mem_take hy)), List.length_take]
    simp
    omega
  · rw [hp', g4]; exact Nat.le_add_right _ _
  · rw [hp', hset, List.take_left]
  · rw [hp', e0, List.take_left]

end Go.Proofs.YtpocmijfkjjboaaGreatDoor

/- journal: clones of bytes; Recover. -/
set_option linter.unusedVariables false
namespace Go.Proofs.YtpocmijfkjjboaaGreatDoor
open Go.ChangeShapes Go.WideShapes Go.ChangeAt Go.RowKit Go.Shelf

open Go.Lib (decDigits itoa itoa_nonneg)
shelf_lay_g SlLaysE0.n41 Slgn 41 at Tryz 41 as Tryz.cloneByt
noncomputable def u8I : TypeInfo := (Tryz.prog.info? 5).get (by kernel_rfl)
theorem cloneB_v (l : List UInt8) (v : Value) (hl : l.length ≤ 100000) (w : World) (h : IsB l v w) :
    Calls Tryz.prog 41 #[v] w fun e w' => (∃ cy cc, e = .returned (.slice cy l.length cc) ∧ Hid (w'.ownsRow w.heap.size 5 1 (.slice cy l.length cc) l.length (l.flatMap encU))) ∧ Below w.heap.size w w' := by
  obtain ⟨ao, cap, rfl, h2, h3, h4, h5⟩ := h
  rcases h5 with ⟨rfl, rfl⟩ | ⟨b, off, rfl⟩
  · obtain rfl := List.length_eq_zero_iff.1 (Nat.le_zero.1 h2)
    refine (AnyE.slices_Clone_nil Tryz.cloneByt 0 0 w).mono ?_
    rintro e w' ⟨rfl, rfl⟩
    exact ⟨⟨none, 0, rfl, Lib.hid (World.ownsRow_nil _ _ _ _)⟩, Below.refl _ _⟩
  · refine (AnyE.slices_Clone Tryz.cloneByt u8I (.int .u8 0) 1 1 (by kernel_rfl) (by kernel_rfl) (by kernel_rfl) (by kernel_rfl) rfl (by decide) Tryz.sizeOf5 b off l.length cap (l.flatMap encU) w (flat_len encU_len l) (by unfold maxLen; omega) (by omega) (h4.flat encU_len (by decide)) ?_).mono ?_
    · intro u hu
      obtain ⟨x, _, hx⟩ := List.mem_flatMap.1 hu
      simp [encU] at hx
      subst hx
      rfl
    · rintro e w' ⟨y, rfl, h1, h2, h3⟩
      obtain ⟨cy, cc, rfl⟩ := own_slice h1
      exact ⟨⟨cy, cc, rfl, Lib.hid h1⟩, h3⟩
/-- What Good and Recover hand back. -/
def gooN (b : List UInt8) : Nat × Nat × Int := if 1048576 < b.length then (0, 0, 4) else ((goodJ b).1.length, (goodJ b).2.1, 0)
def recN (b : List UInt8) : Int := if 1048576 < b.length then 4 else 0
def recL (b : List UInt8) : List Ent := if 1048576 < b.length then [] else (goodJ b).1
def recB (b : List UInt8) : List UInt8 := if 1048576 < b.length then [] else b.take (goodJ b).2.1

set_option maxRecDepth 100000 in
set_option maxHeartbeats 2000000 in
theorem recover_v (b : List UInt8) (v : Value) (hbl : b.length ≤ 100000 ∨ 1048576 < b.length) (w : World) (he : Env w) (hv : IsB b v w) :
    Calls Tryz.prog 20 #[v] w fun e w' => (∃ y z er, e = .returned (.tuple #[y, z, .int .i64 er]) ∧ Hid (er = recN b) ∧ Hid (w'.ownsRow w.heap.size 5 1 y (recB b).length ((recB b).flatMap encU)) ∧ Hid (w'.ownsRow w.heap.size 39 3 z (recL b).length ((recL b).flatMap encE))) ∧ Below w.heap.size w w' := by
  obtain ⟨a, n, c, rfl, hn0, hnc, hcm⟩ := hv.shape
  have he0 := Lib.hid he
  have hv0 := Lib.hid hv
  by_cases hbig : 1048576 < n
  · have hbig2 : 1048576 < b.length := by omega
    have hE : Hid ((4 : Int) = recN b) := Lib.hid (by unfold recN; rw [if_pos hbig2])
    have hE1 : Hid (recL b = []) := Lib.hid (by unfold recL; rw [if_pos hbig2])
    have hE2 : Hid (recB b = []) := Lib.hid (by unfold recB; rw [if_pos hbig2])
    have hbig' : (decide ((1048576 : Int) < (n : Int))) = true := by simp; omega
    clear hbl hn0 hbig he hv hbig2
    go_enter Tryz.func20, Tryz.ntmps20
    go_wp2_with fail
    exact bodyPost_ret (v := .tuple #[.slice none 0 0, .slice none 0 0, .int .i64 4]) (by simp [results, Tryz.results20, go_sem]) rfl ⟨⟨_, _, _, rfl, hE, by rw [hE2.out]; exact Lib.hid (World.ownsRow_nil _ _ _ _), by rw [hE1.out]; exact Lib.hid (World.ownsRow_nil _ _ _ _)⟩, Below.refl _ _⟩
  have hnb : Hid (¬ 1048576 < b.length) := Lib.hid (by omega)
  have hbig' : (decide ((1048576 : Int) < (n : Int))) = false := by simp; omega
  have HG := Lib.hid (good_v b _ (by omega) w he hv)
  have hbn : Hid (n ≤ 100000) := Lib.hid (by omega)
  obtain ⟨l, t, e, hg, hbt, htk, hdr, hst, hez, hvl⟩ := good_parts b
  have hg' := Lib.hid hg
  rw [hg] at HG
  dsimp only at HG
  obtain ⟨at_, hat⟩ : ∃ at_, (encJ l).length = at_ := ⟨_, rfl⟩
  rw [hat] at HG
  have hatn : at_ ≤ n := by
    have := congrArg List.length hbt
    rw [List.length_append] at this
    omega
  replace hn0 := Lib.hid hn0
  replace hat := Lib.hid hat
  have hl0 : Hid (l.length ≤ 1000) := Lib.hid (by
    unfold logV at hvl
    simp only [Bool.and_eq_true, decide_eq_true_eq] at hvl
    exact hvl.1.1)
  clear hbl hbig he hv hg hbt htk hdr hst hez hvl
  go_enter Tryz.func20, Tryz.ntmps20
  go_wp2_with fail
  refine HG.out.mono ?_
  rintro e w1 ⟨⟨y, rfl, ho⟩, HB⟩
  clear HG
  have hE : Hid ((0 : Int) = recN b) := Lib.hid (by unfold recN; rw [if_neg hnb.out])
  have hE1 : Hid (recL b = l) := Lib.hid (by unfold recL; rw [if_neg hnb.out, hg'.out])
  have hE2 : Hid (recB b = b.take at_) := Lib.hid (by unfold recB; rw [if_neg hnb.out, hg'.out, hat.out])
  obtain ⟨A3, hs3, hB3⟩ := (hv0.out.up HB).hi at_ hatn
  have HC := Lib.hid (cloneB_v (b.take at_) _ (by rw [List.length_take]; have := hbn.out; omega) w1 hB3)
  clear hB3
  go_wp2_with fail
  refine HC.out.mono ?_
  rintro e w2 ⟨⟨cy, cc, rfl, hc⟩, hb2⟩
  obtain ⟨LL, hLL⟩ : ∃ LL, (b.take at_).length = LL := ⟨_, rfl⟩
  have hc2 : Hid (w2.ownsRow w.heap.size 5 1 (.slice cy LL cc) (recB b).length ((recB b).flatMap encU)) := Lib.hid (by
    rw [hE2.out, ← hLL]
    exact own_weak hc.out HB.size)
  have ho2 : Hid (w2.ownsRow w.heap.size 39 3 y (recL b).length ((recL b).flatMap encE)) := Lib.hid (by
    rw [hE1.out]
    exact World.ownsRow_up ho.out hb2)
  replace HB := below_then HB hb2
  rw [hLL]
  clear hb2 HC hs3 hLL hc ho
  go_wp2_with fail
  exact bodyPost_ret (v := .tuple #[.slice cy LL cc, y, .int .i64 0]) (by simp [results, Tryz.results20, go_sem]) rfl ⟨⟨_, _, _, rfl, hE, hc2, ho2⟩, HB⟩

end Go.Proofs.YtpocmijfkjjboaaGreatDoor

/- journal: append of a whole slice, or of a string, onto a row of the call's own. -/
set_option linter.unusedVariables false
namespace Go.Proofs.YtpocmijfkjjboaaGreatDoor
open Go.ChangeShapes Go.WideShapes Go.ChangeAt Go.RowKit

open Go.Lib (decDigits itoa itoa_nonneg)
/-- m elements that an append may read: none, or those behind an address. -/
def SrcAt (size : Nat) (w : World) (y : Value) (m : Nat) (news : List Value) : Prop :=
  (m = 0 ∧ news = [] ∧ ∃ a c, y = .slice a 0 c ∧ (a = none → c = 0)) ∨ ∃ ad c, y = .slice (some ad) m c ∧ news.length = m * size ∧ (∀ j u, news[j]? = some u → w.cell? (ad.add j) = some u) ∧ ∀ u ∈ news, u.oneCell' = true
theorem IsB.srcAt {l : List UInt8} {y : Value} {w : World} (h : IsB l y w) : SrcAt 1 w y l.length (l.flatMap encU) := by
  by_cases hl : 1 ≤ l.length
  · obtain ⟨b, off, c, rfl, h1, h2, h3⟩ := h.src hl
    exact .inr ⟨_, _, rfl, h1, h2, h3⟩
  · obtain rfl := List.length_eq_zero_iff.1 (show l.length = 0 by omega)
    obtain ⟨a, c, rfl, _, _, _, h5⟩ := h
    refine .inl ⟨rfl, rfl, a, c, rfl, fun e => ?_⟩
    rcases h5 with ⟨_, q⟩ | ⟨b, off, q⟩
    · exact q
    · rw [e] at q; cases q
theorem encE_one {x : Ent} {u : Value} (h : u ∈ encE x) : u.oneCell' = true := by
  simp [encE] at h
  rcases h with rfl | rfl | rfl <;> rfl
theorem row_srcE {l : List Ent} {y : Value} {w : World} {base : Nat} (h : w.ownsRow base 39 3 y l.length (l.flatMap encE)) : SrcAt 3 w y l.length (l.flatMap encE) := by
  have h2 : Row w 39 3 encE y l := ⟨h.1, h.2.imp id fun ⟨g, cap, cur, h1, _, h3⟩ => ⟨g, cap, cur, h1, Nat.zero_le _, h3⟩⟩
  obtain ⟨ao, cap, rfl, h4, h5, h6, h7⟩ := h2.view encE_len
  rcases h7 with ⟨rfl, hz, rfl⟩ | ⟨g, rfl, _⟩
  · obtain rfl := List.length_eq_zero_iff.1 hz
    exact .inl ⟨rfl, rfl, none, 0, rfl, fun _ => rfl⟩
  · refine .inr ⟨_, _, rfl, flat_len encE_len l, fun j u hu => ?_, fun u hu => ?_⟩
    · have := h6.flat encE_len (by decide) j u hu
      rw [← this]
      cases j <;> simp [Addr.add]
    · obtain ⟨x, _, hx⟩ := List.mem_flatMap.1 hu
      exact encE_one hx
theorem grownBy_refl (w : World) (row : Option Nat) : w.grownBy w row := ⟨rfl, rfl, rfl, Nat.le_refl _, fun _ _ _ => rfl⟩
theorem run_append_any {P : Program} (w : World) (base : Nat) (t ty e : TypeId) (i : TypeInfo) (z : Value) (size bytes : Nat) (ht : P.underlying t = some (.slice e)) (hi : P.info? e = some i) (hz : i.zero = some z)
    (hsize : i.size = size) (hby : i.bytes = bytes) (hzs : z.cells.size = size) (hsz : 0 < size)
    (v : Value) (n : Nat) (xs : List Value) (hown : w.ownsRow base e size v n xs) (y : Value) (m : Nat) (news : List Value) (hy : SrcAt size w y m news)
    (h63 : n + m ≤ maxLen) (hbytes : (n + m) * bytes ≤ 140737488355328) (hbase : base ≤ w.heap.size) :
    ∃ v' w', (Builtin.append_ #[t, t] ty #[v, y]).run P w = .ok v' w' ∧ w'.ownsRow base e size v' (n + m) (xs ++ news) ∧ w.grownBy w' v.ownBlock := by
  rcases hy with ⟨rfl, rfl, a, c, rfl, hac⟩ | ⟨ad, c, rfl, h1, h2, h3⟩
  · obtain ⟨av, cv, hv⟩ := own_slice hown
    have hle : n ≤ cv := by
      obtain ⟨_, ⟨q1, q2⟩ | ⟨g, cap, cur, q1, q2, q3, q4, _⟩⟩ := hown
      · omega
      · rw [hv] at q1; injection q1 with e1 e2 e3; omega
    have hs : Src P i.size t (.slice a 0 c) 0 [] w := by
      cases a with
      | none => rw [hac rfl]; exact Src.ofNil (e' := e) w ht 0
      | some ad => exact Src.ofSlice (e' := e) w ht ad 0 c [] (by simp) (fun j u h => by simp at h) (fun u h => by cases h)
    have := run_append_nothing w t t ty e i ht hi av n cv hle _ hs
    subst hv
    exact ⟨_, _, this, by simpa using hown, grownBy_refl _ _⟩
  · obtain ⟨v', w', q1, q2, q3, _, _⟩ := run_append_own_at (P := P) w base t ty e i z size bytes ht hi hz hsize hby hzs hsz v n xs hown ad m c news h1 h2 h3 h63 hbytes hbase
    exact ⟨v', w', q1, q2, q3⟩
theorem wpList_append_any {P : Program} {w : World} {ops : Array Oper} {rest : List Oper} {o : Oper} {a : Act} {Q : Exit → Act → World → Prop} (hgd : o.guard = none) (s x : Operand) (t : TypeId)
    (ho : o.op = .call { callee := .builtin .append, args := #[s, x], argTypes := #[t, t] })
    (base : Nat) (e : TypeId) (i : TypeInfo) (z : Value) (size bytes : Nat) (ht : P.underlying t = some (.slice e)) (hi : P.info? e = some i) (hz : i.zero = some z)
    (hsize : i.size = size) (hby : i.bytes = bytes) (hzs : z.cells.size = size) (hsz : 0 < size)
    (v : Value) (n : Nat) (xs : List Value) (hs : a.eval s = v) (hown : w.ownsRow base e size v n xs) (y : Value) (m : Nat) (news : List Value) (hx : a.eval x = y) (hy : SrcAt size w y m news)
    (h63 : n + m ≤ maxLen) (hbytes : (n + m) * bytes ≤ 140737488355328) (hbase : base ≤ w.heap.size)
    (h : ∀ v' w', w'.ownsRow base e size v' (n + m) (xs ++ news) → w.grownBy w' v.ownBlock → wpList P ops Q rest (a.put o.dst v') w') :
    wpList P ops Q (o :: rest) a w := by
  refine wpList_plain hgd fun K hK => ?_
  obtain ⟨v', w', hr, h2, h3⟩ := run_append_any (P := P) w base t o.type e i z size bytes ht hi hz hsize hby hzs hsz v n xs hown y m news hy h63 hbytes hbase
  unfold Oper.wp execOp
  simp only [ho, resolve, invoke, builtin, Sem.run_bind, Sem.run_pure, Result.andThen_ok, List.map_toArray, List.map_cons, List.map_nil, hs, hx, hr]
  exact hK _ _ (h v' w' h2 h3)
theorem step_append_any {P : Program} (w : World) {ops : Array Oper} {o : Oper} {a : Act} {K : Act → World → Prop} {Q : Exit → Act → World → Prop} {E : Prop} (hw : Region.wanted o (yielded ops a.tmps) = true) (s x : Operand) (t : TypeId)
    (ho : o.op = .call { callee := .builtin .append, args := #[s, x], argTypes := #[t, t] })
    (base : Nat) (e : TypeId) (i : TypeInfo) (z : Value) (size bytes : Nat) (ht : P.underlying t = some (.slice e)) (hi : P.info? e = some i) (hz : i.zero = some z)
    (hsize : i.size = size) (hby : i.bytes = bytes) (hzs : z.cells.size = size) (hsz : 0 < size)
    (v : Value) (n : Nat) (xs : List Value) (hs : a.eval s = v) (hown : w.ownsRow base e size v n xs) (y : Value) (m : Nat) (news : List Value) (hx : a.eval x = y) (hy : SrcAt size w y m news)
    (h63 : n + m ≤ maxLen) (hbytes : (n + m) * bytes ≤ 140737488355328) (hbase : base ≤ w.heap.size)
    (h : ∀ ao cap w', w'.ownsRow base e size (.slice ao (n + m) cap) (n + m) (xs ++ news) → w.grownBy w' v.ownBlock → K (a.put o.dst (.slice ao (n + m) cap)) w') :
    if Region.wanted o (yielded ops a.tmps) = true then Oper.wp P o a w K Q else E := by
  rw [if_pos hw]
  obtain ⟨v', w', hr, h2, h3⟩ := run_append_any (P := P) w base t o.type e i z size bytes ht hi hz hsize hby hzs hsz v n xs hown y m news hy h63 hbytes hbase
  obtain ⟨ao, cap, rfl⟩ := own_slice h2
  unfold Oper.wp execOp
  simp only [ho, resolve, invoke, builtin, Sem.run_bind, Sem.run_pure, Result.andThen_ok, List.map_toArray, List.map_cons, List.map_nil, hs, hx, hr]
  exact h ao cap w' h2 h3
theorem step_append_str {P : Program} (w : World) {ops : Array Oper} {o : Oper} {a : Act} {K : Act → World → Prop} {Q : Exit → Act → World → Prop} {E : Prop} (hw : Region.wanted o (yielded ops a.tmps) = true) (sl x : Operand) (t u : TypeId)
    (ho : o.op = .call { callee := .builtin .append, args := #[sl, x], argTypes := #[t, u] })
    (base : Nat) (e : TypeId) (i : TypeInfo) (ht : P.underlying t = some (.slice e)) (hu : P.underlying u = some .string) (hi : P.info? e = some i) (hz : i.zero = some (.int .u8 0)) (hsize : i.size = 1) (hby : i.bytes = 1)
    (v : Value) (n : Nat) (xs : List Value) (hs : a.eval sl = v) (hown : w.ownsRow base e 1 v n xs) (s : ByteArray) (hx : a.eval x = .string s)
    (h63 : n + s.size ≤ maxLen) (hbytes : n + s.size ≤ 140737488355328) (hbase : base ≤ w.heap.size)
    (h : ∀ ao cap w', w'.ownsRow base e 1 (.slice ao (n + s.size) cap) (n + s.size) (xs ++ Lib.strCells s) → w.grownBy w' v.ownBlock → K (a.put o.dst (.slice ao (n + s.size) cap)) w') :
    if Region.wanted o (yielded ops a.tmps) = true then Oper.wp P o a w K Q else E := by
  rw [if_pos hw]
  obtain ⟨v', w', hr, h2, h3, _⟩ := Lib.run_append_own_string (P := P) w base t u o.type e i ht hu hi hz hsize hby v n xs hown s h63 hbytes hbase
  obtain ⟨ao, cap, rfl⟩ := own_slice h2
  unfold Oper.wp execOp
  simp only [ho, resolve, invoke, builtin, Sem.run_bind, Sem.run_pure, Result.andThen_ok, List.map_toArray, List.map_cons, List.map_nil, hs, hx, hr]
  exact h ao cap w' h2 h3
/-- The row that '[]T' with nothing in it lays. -/
theorem own_empty {w : World} {base g : Nat} {e : TypeId} {sz : Nat} (h : At w g e #[]) (hb : base ≤ g) : w.ownsRow base e sz (.slice (some ⟨g, 0, none⟩) 0 0) 0 [] :=
  ⟨by simp, .inr ⟨g, 0, #[], rfl, hb, h, Nat.le_refl _, by decide, by simp, by simp⟩⟩
theorem strCells_enc (s : ByteArray) : Lib.strCells s = (by_ s).flatMap encU := by
  unfold Lib.strCells encU
  exact List.map_eq_flatMap

end Go.Proofs.YtpocmijfkjjboaaGreatDoor

/- journal: the reference's integer, Read. -/
set_option linter.unusedVariables false
namespace Go.Proofs.YtpocmijfkjjboaaGreatDoor
open Go.ChangeShapes Go.WideShapes Go.ChangeAt Go.RowKit

open Go.Lib (decDigits itoa itoa_nonneg)
theorem by_take' (s : ByteArray) (k : Nat) (h : k < s.size) : (by_ s).take (k + 1) = (by_ s).take k ++ [s[k]'h] := by
  rw [List.take_succ_eq_append_getElem (by rw [by_len]; exact h)]
  rfl
theorem numV_step (t c : Nat) (ht : t < 1000000000000000) (h1 : 48 ≤ c) (h2 : c ≤ 57) : ∃ u : Nat, u = 10 * t + (c - 48) ∧ IntKind.i64.wrap (10 * (t : Int)) = 10 * (t : Int) ∧ IntKind.u8.wrap ((c : Int) - 48) = (c : Int) - 48 ∧ IntKind.i64.wrap ((c : Int) - 48) = (c : Int) - 48 ∧ IntKind.i64.wrap (10 * (t : Int) + ((c : Int) - 48)) = (u : Int) := by
  refine ⟨_, rfl, IntWalk.i64_in _ (by omega), by rw [IntKind.wrap_u8]; omega, IntWalk.i64_in _ (by omega), ?_⟩
  rw [IntWalk.i64_in _ (by omega)]
  omega
set_option maxRecDepth 100000 in
set_option maxHeartbeats 2000000 in
theorem refint_v (s : ByteArray) (hs : s.size ≤ 1000000) (w : World) :
    Calls Tryz.prog 82 #[.string s] w fun e w' => (∃ n : Int, e = .returned (.tuple #[.int .i64 n, .bool (intO (by_ s)).isSome]) ∧ Hid (∀ q, intO (by_ s) = some q → n = (q : Int))) ∧ w = w' := by
  obtain ⟨R, hR⟩ : ∃ R, (intO (by_ s)).isSome = R := ⟨_, rfl⟩
  rw [hR]
  have hr := intR_iff (by_ s)
  rw [hR] at hr
  unfold intR at hr
  have hl : (by_ s).length = s.size := rfl
  rw [hl] at hr
  have hVf : R = false → Hid (∀ q, intO (by_ s) = some q → (0 : Int) = (q : Int)) := fun h => Lib.hid fun q h2 => by
    rw [h2] at hR
    rw [← hR] at h
    cases h
  by_cases h0 : s.size < 1
  · have hf : R = false := by rw [← hr, decide_eq_false (by omega)]; rfl
    have hE := Lib.hid hf
    have hV := hVf hf
    have z0 : ((s.size : Int) < 1) := by omega
    clear hr hR hVf hf hl
    go_enter Tryz.func82, Tryz.ntmps82
    go_wp2_with fail
    exact bodyPost_ret (v := .tuple #[.int .i64 0, .bool false]) (by simp [results, Tryz.results82, go_sem]) rfl ⟨⟨0, by rw [hE.out], hV⟩, rfl⟩
  by_cases h1 : 15 < s.size
  · have hf : R = false := by rw [← hr, decide_eq_false (show ¬ s.size ≤ 15 by omega)]; simp
    have hE := Lib.hid hf
    have hV := hVf hf
    have z0 : ((s.size : Int) < 1) = False := by simp; omega
    clear hr hR hVf hf hl
    go_enter Tryz.func82, Tryz.ntmps82
    go_wp2_with fail
    exact bodyPost_ret (v := .tuple #[.int .i64 0, .bool false]) (by simp [results, Tryz.results82, go_sem]) rfl ⟨⟨0, by rw [hE.out], hV⟩, rfl⟩
  have hp : 0 < s.size := by omega
  obtain ⟨c, hc⟩ : ∃ c, s[0]'hp = c := ⟨_, rfl⟩
  have hhd : (by_ s).head? = some c := by
    rw [List.head?_eq_getElem?, List.getElem?_eq_getElem (by rw [hl]; exact hp)]
    exact congrArg some hc
  rw [decide_eq_true (show 1 ≤ s.size by omega), decide_eq_true (show s.size ≤ 15 by omega), hhd] at hr
  have main : Hid ((decide (1 < s.size) && (c == 48)) = false → Calls Tryz.prog 82 #[.string s] w fun e w' => (∃ n : Int, e = .returned (.tuple #[.int .i64 n, .bool R]) ∧ Hid (∀ q, intO (by_ s) = some q → n = (q : Int))) ∧ w = w') := Lib.hid fun hz => by
    have hR2 : Hid (R = (by_ s).all digB) := Lib.hid (by
      rw [← hr]
      have : (decide (1 < s.size) && some c == some 48) = false := by rw [← hz]; congr 1
      rw [this]
      simp)
    have hVn : Hid (∀ q, intO (by_ s) = some q → (numV (by_ s) : Int) = (q : Int)) := Lib.hid fun q h => by rw [(intO_val h).1]
    have hf0 := Lib.hid hVf
    obtain ⟨n, hn⟩ : ∃ n, s.size = n := ⟨_, rfl⟩
    have hz' : 1 < n → ((c.toNat : Int) == 48) = false := fun h => by
      rw [← hn] at h
      rw [decide_eq_true h, Bool.true_and, beq_eq_false_iff_ne] at hz
      rw [beq_eq_false_iff_ne]
      intro e
      apply hz
      apply UInt8.toNat_inj.1
      have : (48 : UInt8).toNat = 48 := rfl
      omega
    have hgo : Hid (∀ k, k < n → ∃ c : UInt8, ∃ h : k < s.size, s[k]'h = c) := Lib.hid fun k hk => ⟨_, by omega, rfl⟩
    clear hr hR hVf hhd hz
    have h1n : ¬ 15 < n := by omega
    have h0n : ¬ n < 1 := by omega
    rw [hn] at hl
    by_cases hn1 : 1 < n
    · have hz2 := hz' hn1
      clear hz'
      go_enter Tryz.func82, Tryz.ntmps82
      go_wp2_with fail
      go_loopg [5, 4] n (fun g i v wr => ∃ (k t : Nat), k ≤ n ∧ i = .int .i64 (k : Int) ∧ v = .int .i64 (t : Int) ∧ Hid (g = n - k ∧ ((by_ s).take k).all digB = true ∧ numV ((by_ s).take k) = t) ∧ w = wr)
      case atStart => exact ⟨0, 0, Nat.zero_le _, rfl, rfl, Lib.hid ⟨rfl, rfl, rfl⟩, rfl⟩
      case round =>
        obtain ⟨k, t, hk, rfl, rfl, hrr, rfl⟩ := hrel
        by_cases hlt : k < n
        · obtain ⟨c, hks, hc⟩ := hgo.out k hlt
          have htk := by_take' s k hks
          rw [hc] at htk
          have htl : t < 1000000000000000 := by
            have h1 := numV_lt _ ((by_ s).take k) rfl hrr.out.2.1
            rw [hrr.out.2.2, List.length_take] at h1
            have h2 : 10 ^ (min k (by_ s).length) ≤ 10 ^ 15 := Nat.pow_le_pow_right (by decide) (by omega)
            omega
          cases hdg : digB c
          · have hE : Hid (R = false) := Lib.hid (by
              rw [hR2.out]
              cases hall : (by_ s).all digB
              · rfl
              · have hm : c ∈ by_ s := List.mem_of_mem_take (i := k + 1) (by rw [htk]; simp)
                have := List.all_eq_true.1 hall c hm
                rw [hdg] at this
                cases this)
            have hV := hf0.out hE.out
            unfold digB at hdg
            rw [Bool.and_eq_false_iff, decide_eq_false_iff_not, decide_eq_false_iff_not] at hdg
            clear htk htl
            rcases hdg with h48 | h57
            · have z1 : decide ((c.toNat : Int) < 48) = true := by simp; omega
              clear h48
              go_wp2_with fail
              exact bodyPost_ret (v := .tuple #[.int .i64 0, .bool false]) (by simp [results, Tryz.results82, go_sem]) rfl ⟨⟨0, by rw [hE.out], hV⟩, rfl⟩
            · by_cases h48 : c.toNat < 48
              · have z1 : decide ((c.toNat : Int) < 48) = true := by simp; omega
                clear h48 h57
                go_wp2_with fail
                exact bodyPost_ret (v := .tuple #[.int .i64 0, .bool false]) (by simp [results, Tryz.results82, go_sem]) rfl ⟨⟨0, by rw [hE.out], hV⟩, rfl⟩
              · have z1 : decide ((c.toNat : Int) < 48) = false := by simp; omega
                have z2 : decide ((57 : Int) < (c.toNat : Int)) = true := by simp; omega
                clear h48 h57
                go_wp2_with fail
                exact bodyPost_ret (v := .tuple #[.int .i64 0, .bool false]) (by simp [results, Tryz.results82, go_sem]) rfl ⟨⟨0, by rw [hE.out], hV⟩, rfl⟩
          · obtain ⟨b1, b2⟩ := digB_bd hdg
            obtain ⟨u, hu, w1, w2, w3, w4⟩ := numV_step t c.toNat htl b1 b2
            have hS : Hid (((by_ s).take (k + 1)).all digB = true ∧ numV ((by_ s).take (k + 1)) = u) := Lib.hid (by
              rw [htk, List.all_append, hrr.out.2.1, numV_snoc, hrr.out.2.2, hu]
              simp [hdg])
            have z1 : decide ((c.toNat : Int) < 48) = false := by simp; omega
            have z2 : decide ((57 : Int) < (c.toNat : Int)) = false := by simp; omega
            clear hdg htk htl hu b1 b2
            go_wp2_with fail
            go_roundg (n - (k + 1))
            case measure => have := hrr.out.1; omega
            case rel => exact ⟨k + 1, u, by omega, by go_num, rfl, Lib.hid ⟨rfl, hS.out⟩, rfl⟩
        · have hfull : (by_ s).take k = by_ s := List.take_of_length_le (by rw [hl]; omega)
          have hE : Hid (R = true) := Lib.hid (by rw [hR2.out, ← hfull]; exact hrr.out.2.1)
          have ht : numV (by_ s) = t := by rw [← hfull]; exact hrr.out.2.2
          have hV : Hid (∀ q, intO (by_ s) = some q → (t : Int) = (q : Int)) := Lib.hid fun q h => by rw [← ht]; exact hVn.out q h
          clear hfull ht
          go_wp2_with fail
          exact bodyPost_ret (v := .tuple #[.int .i64 (t : Int), .bool true]) (by simp [results, Tryz.results82, go_sem]) rfl ⟨⟨(t : Int), by rw [hE.out], hV⟩, rfl⟩
    · clear hz'
      go_enter Tryz.func82, Tryz.ntmps82
      go_wp2_with fail
      go_loopg [5, 4] n (fun g i v wr => ∃ (k t : Nat), k ≤ n ∧ i = .int .i64 (k : Int) ∧ v = .int .i64 (t : Int) ∧ Hid (g = n - k ∧ ((by_ s).take k).all digB = true ∧ numV ((by_ s).take k) = t) ∧ w = wr)
      case atStart => exact ⟨0, 0, Nat.zero_le _, rfl, rfl, Lib.hid ⟨rfl, rfl, rfl⟩, rfl⟩
      case round =>
        obtain ⟨k, t, hk, rfl, rfl, hrr, rfl⟩ := hrel
        by_cases hlt : k < n
        · obtain ⟨c, hks, hc⟩ := hgo.out k hlt
          have htk := by_take' s k hks
          rw [hc] at htk
          have htl : t < 1000000000000000 := by
            have h1 := numV_lt _ ((by_ s).take k) rfl hrr.out.2.1
            rw [hrr.out.2.2, List.length_take] at h1
            have h2 : 10 ^ (min k (by_ s).length) ≤ 10 ^ 15 := Nat.pow_le_pow_right (by decide) (by omega)
            omega
          cases hdg : digB c
          · have hE : Hid (R = false) := Lib.hid (by
              rw [hR2.out]
              cases hall : (by_ s).all digB
              · rfl
              · have hm : c ∈ by_ s := List.mem_of_mem_take (i := k + 1) (by rw [htk]; simp)
                have := List.all_eq_true.1 hall c hm
                rw [hdg] at this
                cases this)
            have hV := hf0.out hE.out
            unfold digB at hdg
            rw [Bool.and_eq_false_iff, decide_eq_false_iff_not, decide_eq_false_iff_not] at hdg
            clear htk htl
            rcases hdg with h48 | h57
            · have z1 : decide ((c.toNat : Int) < 48) = true := by simp; omega
              clear h48
              go_wp2_with fail
              exact bodyPost_ret (v := .tuple #[.int .i64 0, .bool false]) (by simp [results, Tryz.results82, go_sem]) rfl ⟨⟨0, by rw [hE.out], hV⟩, rfl⟩
            · by_cases h48 : c.toNat < 48
              · have z1 : decide ((c.toNat : Int) < 48) = true := by simp; omega
                clear h48 h57
                go_wp2_with fail
                exact bodyPost_ret (v := .tuple #[.int .i64 0, .bool false]) (by simp [results, Tryz.results82, go_sem]) rfl ⟨⟨0, by rw [hE.out], hV⟩, rfl⟩
              · have z1 : decide ((c.toNat : Int) < 48) = false := by simp; omega
                have z2 : decide ((57 : Int) < (c.toNat : Int)) = true := by simp; omega
                clear h48 h57
                go_wp2_with fail
                exact bodyPost_ret (v := .tuple #[.int .i64 0, .bool false]) (by simp [results, Tryz.results82, go_sem]) rfl ⟨⟨0, by rw [hE.out], hV⟩, rfl⟩
          · obtain ⟨b1, b2⟩ := digB_bd hdg
            obtain ⟨u, hu, w1, w2, w3, w4⟩ := numV_step t c.toNat htl b1 b2
            have hS : Hid (((by_ s).take (k + 1)).all digB = true ∧ numV ((by_ s).take (k + 1)) = u) := Lib.hid (by
              rw [htk, List.all_append, hrr.out.2.1, numV_snoc, hrr.out.2.2, hu]
              simp [hdg])
            have z1 : decide ((c.toNat : Int) < 48) = false := by simp; omega
            have z2 : decide ((57 : Int) < (c.toNat : Int)) = false := by simp; omega
            clear hdg htk htl hu b1 b2
            go_wp2_with fail
            go_roundg (n - (k + 1))
            case measure => have := hrr.out.1; omega
            case rel => exact ⟨k + 1, u, by omega, by go_num, rfl, Lib.hid ⟨rfl, hS.out⟩, rfl⟩
        · have hfull : (by_ s).take k = by_ s := List.take_of_length_le (by rw [hl]; omega)
          have hE : Hid (R = true) := Lib.hid (by rw [hR2.out, ← hfull]; exact hrr.out.2.1)
          have ht : numV (by_ s) = t := by rw [← hfull]; exact hrr.out.2.2
          have hV : Hid (∀ q, intO (by_ s) = some q → (t : Int) = (q : Int)) := Lib.hid fun q h => by rw [← ht]; exact hVn.out q h
          clear hfull ht
          go_wp2_with fail
          exact bodyPost_ret (v := .tuple #[.int .i64 (t : Int), .bool true]) (by simp [results, Tryz.results82, go_sem]) rfl ⟨⟨(t : Int), by rw [hE.out], hV⟩, rfl⟩
  cases hz : (decide (1 < s.size) && (c == 48))
  · exact main.out hz
  · have h2 : 1 < s.size := of_decide_eq_true (Bool.and_eq_true _ _ ▸ hz).1
    have hf : R = false := by
      rw [← hr]
      have : (decide (1 < s.size) && some c == some 48) = true := by rw [← hz]; congr 1
      rw [this]
      simp
    have hE := Lib.hid hf
    have hV := hVf hf
    have hc48 : c = 48 := eq_of_beq (Bool.and_eq_true _ _ ▸ hz).2
    subst hc48
    clear hr hR hVf hf hl hhd main hz
    go_enter Tryz.func82, Tryz.ntmps82
    go_wp2_with fail
    exact bodyPost_ret (v := .tuple #[.int .i64 0, .bool false]) (by simp [results, Tryz.results82, go_sem]) rfl ⟨⟨0, by rw [hE.out], hV⟩, rfl⟩

theorem wordcell' {w : World} {b off B : Nat} {ws : List ByteArray} (h : RowAt encS 1 B w (some ⟨b, off, none⟩) ws) (k : Nat) (hk : k < ws.length) : w.cell? ⟨b, off + k, none⟩ = some (.string ws[k]) := by
  obtain ⟨b', off', e, hc, _⟩ := h.one (f := fun s => .string s) k hk
  simp only [Option.some.injEq, Addr.mk.injEq, and_true] at e
  obtain ⟨rfl, rfl⟩ := e
  exact hc
theorem ext_by (s : ByteArray) (i j : Nat) : by_ (s.extract i j) = ((by_ s).drop i).take (j - i) := Lib.extract_data s i j
set_option maxRecDepth 100000 in
set_option maxHeartbeats 4000000 in
theorem refread_v (s : ByteArray) (hs : s.size ≤ 1000000) (w : World) :
    Calls Tryz.prog 69 #[.string s] w fun e w' => (∃ (d k : Int) (nm : ByteArray) (sv : Int) (ok : Bool), e = .returned (.tuple #[.agg #[.int .i64 d, .int .i64 k, .string nm], .int .i64 sv, .bool ok]) ∧ Hid (∀ x t, readO (by_ s) = some (x, t) → ok = true ∧ x = ⟨d, k, nm⟩ ∧ sv = (t : Int)) ∧ Hid (readO (by_ s) = none → ok = false) ∧ Hid (nm.size ≤ s.size)) ∧ Below w.heap.size w w' := by
  obtain ⟨iS, hs0, hs1, hs2, hs3⟩ := info_parts infoStr
  obtain ⟨n, hn⟩ : ∃ n, s.size = n := ⟨_, rfl⟩
  have hl : Hid ((by_ s).length = n) := Lib.hid (by rw [by_len]; exact hn)
  have hgo : Hid (∀ k, k < n → ∃ c : UInt8, ∃ h : k < s.size, s[k]'h = c ∧ (by_ s).drop k = c :: (by_ s).drop (k + 1)) := Lib.hid fun k hk => ⟨s[k]'(by omega), by omega, rfl, List.drop_eq_getElem_cons (by have := hl.out; omega)⟩
  have hn6 : n ≤ 1000000 := by omega
  go_enter Tryz.func69, Tryz.ntmps69
  go_upto_region 1 with fail
  generalize hWW : World.alloc _ _ = W0
  have kz : At W0 w.heap.size 39 #[.int .i64 0, .int .i64 0, .string ⟨#[]⟩] := by rw [← hWW]; exact At.new' rfl
  have HB : Below w.heap.size w W0 := by rw [← hWW]; exact below_al (Below.refl _ _) _
  have hWk : Hid (w.heap.size < W0.heap.size) := Lib.hid kz.lt
  have hWz : Hid (w.heap.size ≤ W0.heap.size) := Lib.hid HB.size
  have hW1 : Hid (W0.heap.size = w.heap.size + 1) := Lib.hid (by rw [← hWW]; exact Array.size_push _)
  clear hWW
  go_wp2_with fail
  go_loopg [7, 6, 5] (n + 2) (fun g i fr v0 wr => ∃ (k p : Nat) (ws : List ByteArray) (v : Value), v = v0 ∧ k ≤ n + 1 ∧ i = .int .i64 (k : Int) ∧ fr = .int .i64 (p : Int) ∧ Hid (g = n + 1 - k + 1 ∧ ws.length ≤ k ∧ (k ≤ n → p ≤ k ∧ noB 32 (((by_ s).drop p).take (k - p)) ∧ ws.map by_ ++ splitB 32 ((by_ s).drop p) = splitB 32 (by_ s)) ∧ (n < k → ws.map by_ = splitB 32 (by_ s))) ∧ Below w.heap.size w wr ∧ At wr w.heap.size 39 #[.int .i64 0, .int .i64 0, .string ⟨#[]⟩] ∧ Hid (wr.ownsRow W0.heap.size 9 1 v ws.length (ws.flatMap encS)))
  case atStart => exact ⟨0, 0, [], _, rfl, by omega, rfl, rfl, Lib.hid ⟨by omega, by simp, fun _ => ⟨Nat.le_refl _, by simpa using noB_nil 32, by simp⟩, fun h => absurd h (by omega)⟩, HB, kz, Lib.hid (World.ownsRow_nil _ _ _ _)⟩
  case round =>
    clear HB kz
    obtain ⟨k, p, ws, v, rfl, hk, rfl, rfl, hr, HB, kz, ho⟩ := hrel
    by_cases hkn : k ≤ n
    · obtain ⟨hpk, hnb, hsp⟩ := hr.out.2.2.1 hkn
      have hnb' := Lib.hid hnb
      have hsp' := Lib.hid hsp
      have hwl : Hid (ws.length ≤ 2000000) := Lib.hid (by have := hr.out.2.1; omega)
      have hwk : Hid (ws.length ≤ k) := Lib.hid hr.out.2.1
      have hg0 : Hid (gk = n + 1 - k + 1) := Lib.hid hr.out.1
      obtain ⟨x, hx⟩ : ∃ x, s.extract p k = x := ⟨_, rfl⟩
      have hxb : Hid (by_ x = ((by_ s).drop p).take (k - p)) := Lib.hid (by rw [← hx]; exact ext_by s p k)
      clear hnb hsp hr
      by_cases hlt : k < n
      · obtain ⟨c, hks, hc, hdr⟩ := hgo.out k hlt
        have hdd : Hid ((by_ s).drop p = ((by_ s).drop p).take (k - p) ++ c :: (by_ s).drop (k + 1)) := Lib.hid (by
          have h1 := List.take_append_drop (k - p) ((by_ s).drop p)
          rw [List.drop_drop, show p + (k - p) = k by omega, hdr] at h1
          exact h1.symm)
        have hkn1 : ((k : Int) == (n : Int)) = false := by simp; omega
        have w1 : IntKind.i64.wrap ((k : Int) + 1) = ((k + 1 : Nat) : Int) := by rw [IntWalk.i64_in _ (by omega)]; omega
        clear hdr
        by_cases h32 : c = 32
        · have hc32 : ((c.toNat : Int) == 32) = true := by rw [h32]; rfl
          have hS : Hid ((ws ++ [x]).map by_ ++ splitB 32 ((by_ s).drop (k + 1)) = splitB 32 (by_ s)) := Lib.hid (by
            rw [← hsp'.out, hdd.out, h32, splitB_at _ hnb'.out, List.map_append, List.append_assoc, ← hxb.out]
            rfl)
          clear h32
          go_wp2_with (at_builtin; refine wpList_append_own_at _ rfl _ _ 48 rfl W0.heap.size 9 iS (.string ⟨#[]⟩) 1 16 Tryz.underlying48 hs0 hs1 hs2 hs3 rfl (by decide) _ _ _ rfl (World.ownsRow.alloc ho.out _) ⟨wr.heap.size, 0, none⟩ 1 1 [.string x] rfl rfl (cell_one_new _ _ _) (by intro u hu; simp at hu; subst hu; rfl) (by have := hwl.out; unfold maxLen; omega) (by have := hwl.out; omega) (by have := kz.lt; have := hW1.out; simp; omega) ?_)
          intro v' w1 ho1 hg1 hnil hloc
          have hg2 : wr.grownBy w1 v.ownBlock := (World.grownBy_alloc _ _ _).trans hg1
          have hb1 : Below w.heap.size w w1 := HB.grown hg2 (by have := HB.size; omega) (fun j hj => Nat.le_trans hWz.out (own_lt ho.out hj).2)
          have kz1 := at_grown kz hg2 (fun h => by have := (own_lt ho.out h).2; have := hWk.out; omega)
          have ho2 : Hid (w1.ownsRow W0.heap.size 9 1 v' (ws ++ [x]).length ((ws ++ [x]).flatMap encS)) := Lib.hid (by
            rw [List.length_append, List.flatMap_append]
            exact ho1)
          clear hg1 hg2 hnil hloc ho1
          go_wp2_with fail
          go_roundg (n + 1 - (k + 1) + 1)
          case measure => have := hg0.out; omega
          case rel => exact ⟨k + 1, k + 1, ws ++ [x], v', rfl, by omega, by go_num, by go_num, Lib.hid ⟨rfl, by have := hwk.out; simp; omega, fun _ => ⟨Nat.le_refl _, by simpa using noB_nil 32, hS.out⟩, fun h => absurd h (by omega)⟩, hb1, kz1, ho2⟩
        · have hc32 : ((c.toNat : Int) == 32) = false := by
            rw [beq_eq_false_iff_ne]
            intro h
            apply h32
            apply UInt8.toNat_inj.1
            have : (32 : UInt8).toNat = 32 := rfl
            omega
          have hN : Hid (noB 32 (((by_ s).drop p).take (k + 1 - p))) := Lib.hid (by
            have e : ((by_ s).drop p).take (k + 1 - p) = ((by_ s).drop p).take (k - p) ++ [c] := by
              have hz : (((by_ s).drop p).take (k - p)).length = k - p := by
                rw [List.length_take, List.length_drop]
                have := hl.out
                omega
              have h1 := congrArg (List.take (k + 1 - p)) hdd.out
              obtain ⟨A, hA⟩ : ∃ A, ((by_ s).drop p).take (k - p) = A := ⟨_, rfl⟩
              rw [hA] at h1 hz ⊢
              rw [h1, List.take_append, hz, List.take_of_length_le (l := A) (by omega), show k + 1 - p - (k - p) = 1 by omega]
              rfl
            rw [e, noB_app]
            exact ⟨hnb'.out, noB_cons.2 ⟨h32, noB_nil _⟩⟩)
          clear h32
          go_wp2_with fail
          go_roundg (n + 1 - (k + 1) + 1)
          case measure => have := hg0.out; omega
          case rel => exact ⟨k + 1, p, ws, v, rfl, by omega, by go_num, rfl, Lib.hid ⟨rfl, by have := hwk.out; omega, fun _ => ⟨by omega, hN.out, hsp'.out⟩, fun h => absurd h (by omega)⟩, HB, kz, ho⟩
      · obtain rfl : k = n := by omega
        have hS : Hid ((ws ++ [x]).map by_ = splitB 32 (by_ s)) := Lib.hid (by
          have hz : ((by_ s).drop p).take (k - p) = (by_ s).drop p := List.take_of_length_le (by rw [List.length_drop]; have := hl.out; omega)
          have h1 := hnb'.out
          have h2 := hxb.out
          rw [hz] at h1 h2
          rw [← hsp'.out, splitB_no h1, List.map_append, ← h2]
          rfl)
        have hkn1 : ((k : Int) == (k : Int)) = true := by simp
        have w1 : IntKind.i64.wrap ((k : Int) + 1) = ((k + 1 : Nat) : Int) := by rw [IntWalk.i64_in _ (by omega)]; omega
        go_wp2_with (at_builtin; refine wpList_append_own_at _ rfl _ _ 48 rfl W0.heap.size 9 iS (.string ⟨#[]⟩) 1 16 Tryz.underlying48 hs0 hs1 hs2 hs3 rfl (by decide) _ _ _ rfl (World.ownsRow.alloc ho.out _) ⟨wr.heap.size, 0, none⟩ 1 1 [.string x] rfl rfl (cell_one_new _ _ _) (by intro u hu; simp at hu; subst hu; rfl) (by have := hwl.out; unfold maxLen; omega) (by have := hwl.out; omega) (by have := kz.lt; have := hW1.out; simp; omega) ?_)
        intro v' w1 ho1 hg1 hnil hloc
        have hg2 : wr.grownBy w1 v.ownBlock := (World.grownBy_alloc _ _ _).trans hg1
        have hb1 : Below w.heap.size w w1 := HB.grown hg2 (by have := HB.size; omega) (fun j hj => Nat.le_trans hWz.out (own_lt ho.out hj).2)
        have kz1 := at_grown kz hg2 (fun h => by have := (own_lt ho.out h).2; have := hWk.out; omega)
        have ho2 : Hid (w1.ownsRow W0.heap.size 9 1 v' (ws ++ [x]).length ((ws ++ [x]).flatMap encS)) := Lib.hid (by
          rw [List.length_append, List.flatMap_append]
          exact ho1)
        clear hg1 hg2 hnil hloc ho1
        go_wp2_with fail
        go_roundg 1
        case measure => have := hg0.out; omega
        case rel => exact ⟨k + 1, k + 1, ws ++ [x], v', rfl, by omega, by go_num, by go_num, Lib.hid ⟨by omega, by have := hwk.out; simp; omega, fun h => absurd h (by omega), fun _ => hS.out⟩, hb1, kz1, ho2⟩
    · have hS : Hid (ws.map by_ = splitB 32 (by_ s)) := Lib.hid (hr.out.2.2.2 (by omega))
      have hk1 : k = n + 1 := by omega
      have hkk : decide ((k : Int) ≤ (n : Int)) = false := by simp; omega
      have hL := Lib.hid (word_len hS.out)
      obtain ⟨aw, cw, hsh, hlw, hcw, hrow, -⟩ := (show Row wr 9 1 encS v ws from ⟨ho.out.1, ho.out.2.imp id fun ⟨g, cap, cur, h1, _, h3⟩ => ⟨g, cap, cur, h1, Nat.zero_le _, h3⟩⟩).view encS_len
      subst hsh
      have hrow' := Lib.hid hrow
      have hll := hl.out
      clear hr hrow hk
      by_cases h4 : ws.length = 4
      rotate_left
      · have hE : Hid (readO (by_ s) = none) := Lib.hid (readO_len (by rw [← hS.out, List.length_map]; exact h4))
        have h4' : ((ws.length : Int) != 4) = true := by simp; omega
        clear hS hL h4 hll
        obtain ⟨z0, z1, z2⟩ := kz.three
        have f0 := kz.f 0
        have f1 := kz.f 1
        have f2 := kz.f 2
        have Lz := kz.lt
        go_wp2_with fail
        generalize hWW : World.setCell _ _ _ = WW
        have kz' : At WW w.heap.size 39 #[.int .i64 0, .int .i64 0, .string ⟨#[]⟩] := by rw [← hWW]; simpa using ((kz.put 0 (.int .i64 0)).put 1 (.int .i64 0)).put 2 (.string ⟨#[]⟩)
        have HB' : Below w.heap.size w WW := by rw [← hWW]; exact below_set (below_set (below_set HB (Nat.le_refl _) _) (Nat.le_refl _) _) (Nat.le_refl _) _
        clear hWW z0 z1 z2 f0 f1 f2 kz HB
        obtain ⟨g0, g1, g2⟩ := kz'.three
        exact bodyPost_ret (v := .tuple #[.agg #[.int .i64 0, .int .i64 0, .string ⟨#[]⟩], .int .i64 0, .bool false]) (by simp [results, Tryz.results69, go_sem, g0, g1, g2]) rfl ⟨⟨0, 0, ⟨#[]⟩, 0, false, rfl, Lib.hid (fun x t h => by rw [hE.out] at h; cases h), Lib.hid (fun _ => rfl), Lib.hid (Nat.zero_le _)⟩, HB'⟩
      obtain ⟨A, Bk, C, D, rfl⟩ := four_of h4
      have bA := hL.out A (by simp)
      have bB := hL.out Bk (by simp)
      have bC := hL.out C (by simp)
      have bD := hL.out D (by simp)
      obtain ⟨Hb, Ho, hHa, _⟩ := hrow'.out 0 (by simp)
      subst hHa
      have k0 := wordcell' hrow'.out 0 (by simp)
      have k1 := wordcell' hrow'.out 1 (by simp)
      have k2 := wordcell' hrow'.out 2 (by simp)
      have k3 := wordcell' hrow'.out 3 (by simp)
      simp only [List.getElem_cons_zero, List.getElem_cons_succ, Nat.add_zero] at k0 k1 k2 k3
      have hs4 : splitB 32 (by_ s) = [by_ A, by_ Bk, by_ C, by_ D] := by rw [← hS.out]; rfl
      have HN := Lib.hid (fun u => refisName_any C (by omega) u)
      clear h4 hS hL
      cases hnb : nameB (by_ C)
      · rw [hnb] at HN
        have hE : Hid (readO (by_ s) = none) := Lib.hid (readO_name hs4 hnb)
        clear k0 k1 k3 hs4 hnb hll
        go_wp2_with fail
        refine (HN.out _).mono ?_
        rintro e w4 ⟨rfl, rfl⟩
        clear k2 HN
        obtain ⟨z0, z1, z2⟩ := kz.three
        have f0 := kz.f 0
        have f1 := kz.f 1
        have f2 := kz.f 2
        have Lz := kz.lt
        go_wp2_with fail
        generalize hWW : World.setCell _ _ _ = WW
        have kz' : At WW w.heap.size 39 #[.int .i64 0, .int .i64 0, .string ⟨#[]⟩] := by rw [← hWW]; simpa using ((kz.put 0 (.int .i64 0)).put 1 (.int .i64 0)).put 2 (.string ⟨#[]⟩)
        have HB' : Below w.heap.size w WW := by rw [← hWW]; exact below_set (below_set (below_set HB (Nat.le_refl _) _) (Nat.le_refl _) _) (Nat.le_refl _) _
        clear hWW z0 z1 z2 f0 f1 f2 kz HB
        obtain ⟨g0, g1, g2⟩ := kz'.three
        exact bodyPost_ret (v := .tuple #[.agg #[.int .i64 0, .int .i64 0, .string ⟨#[]⟩], .int .i64 0, .bool false]) (by simp [results, Tryz.results69, go_sem, g0, g1, g2]) rfl ⟨⟨0, 0, ⟨#[]⟩, 0, false, rfl, Lib.hid (fun x t h => by rw [hE.out] at h; cases h), Lib.hid (fun _ => rfl), Lib.hid (Nat.zero_le _)⟩, HB'⟩
      rw [hnb] at HN
      obtain ⟨g1, g2⟩ := readO_four hs4 hnb
      have hE1 := Lib.hid g1
      have hE2 := Lib.hid g2
      have hcl := Lib.hid (show C.size ≤ s.size by omega)
      clear hs4 hnb g1 g2
      obtain ⟨okA, hoA⟩ : ∃ okA, (intO (by_ A)).isSome = okA := ⟨_, rfl⟩
      obtain ⟨okB, hoB⟩ : ∃ okB, (intO (by_ Bk)).isSome = okB := ⟨_, rfl⟩
      obtain ⟨okD, hoD⟩ : ∃ okD, (intO (by_ D)).isSome = okD := ⟨_, rfl⟩
      have HA := Lib.hid (fun w => refint_v A (by omega) w)
      have HBk := Lib.hid (fun w => refint_v Bk (by omega) w)
      have HD := Lib.hid (fun w => refint_v D (by omega) w)
      rw [hoA] at HA hE1
      rw [hoB] at HBk hE1
      rw [hoD] at HD hE1
      clear hoA hoB hoD bA bB bC bD hll
      go_wp2_with fail
      refine (HN.out _).mono ?_
      rintro e w4 ⟨rfl, rfl⟩
      clear HN
      go_wp2_with fail
      refine (HA.out _).mono ?_
      rintro e w5 ⟨⟨nA, rfl, vA⟩, rfl⟩
      go_wp2_with fail
      refine (HBk.out _).mono ?_
      rintro e w6 ⟨⟨nB, rfl, vB⟩, rfl⟩
      go_wp2_with fail
      refine (HD.out _).mono ?_
      rintro e w7 ⟨⟨nD, rfl, vD⟩, rfl⟩
      have hP : Hid (∀ x t, readO (by_ s) = some (x, t) → (okA && okB && okD) = true ∧ x = ⟨nA, nB, C⟩ ∧ nD = (t : Int)) := Lib.hid (by
        intro x t h
        obtain ⟨p, r, h1, h2, h3, rfl⟩ := hE2.out x t h
        have h4 := hE1.out
        rw [h] at h4
        refine ⟨h4.symm, ?_, vD.out _ h3⟩
        rw [vA.out _ h1, vB.out _ h2])
      have hQ : Hid (readO (by_ s) = none → (okA && okB && okD) = false) := Lib.hid (fun h => by
        have h4 := hE1.out
        rw [h] at h4
        exact h4.symm)
      clear hE1 hE2 vA vB vD k0 k1 k3 HA HBk HD
      cases okA <;> cases okB <;> cases okD
      all_goals
        obtain ⟨z0, z1, z2⟩ := kz.three
        have f0 := kz.f 0
        have f1 := kz.f 1
        have f2 := kz.f 2
        have Lz := kz.lt
        go_wp2_with fail
        generalize hWW : World.setCell _ _ _ = WW
        have kz' : At WW w.heap.size 39 #[.int .i64 nA, .int .i64 nB, .string C] := by rw [← hWW]; simpa using ((kz.put 0 (.int .i64 nA)).put 1 (.int .i64 nB)).put 2 (.string C)
        have HB' : Below w.heap.size w WW := by rw [← hWW]; exact below_set (below_set (below_set HB (Nat.le_refl _) _) (Nat.le_refl _) _) (Nat.le_refl _) _
        clear hWW z0 z1 z2 f0 f1 f2 kz HB
        obtain ⟨g0, g1, g2⟩ := kz'.three
        exact bodyPost_ret (v := .tuple #[.agg #[.int .i64 nA, .int .i64 nB, .string C], .int .i64 nD, .bool _]) (by simp [results, Tryz.results69, go_sem, g0, g1, g2]) rfl ⟨⟨nA, nB, C, nD, _, rfl, hP, hQ, hcl⟩, HB'⟩

end Go.Proofs.YtpocmijfkjjboaaGreatDoor

/- journal: the reference's Good, Decode. -/
set_option linter.unusedVariables false
namespace Go.Proofs.YtpocmijfkjjboaaGreatDoor
open Go.ChangeShapes Go.WideShapes Go.ChangeAt Go.RowKit

open Go.Lib (decDigits itoa itoa_nonneg)
theorem jvalid43_own {w : World} {base : Nat} {v : Value} {l : List Ent} (h : w.ownsRow base 39 3 v l.length (l.flatMap encE)) (hs : ∀ x ∈ l, x.name.size ≤ 10000) :
    Calls Tryz.prog 71 #[v] w fun e w' => e = .returned (.bool (logV l)) ∧ w = w' := by
  have h2 : Row w 39 3 encE v l := ⟨h.1, h.2.imp id fun ⟨g, cap, cur, h1, _, h3⟩ => ⟨g, cap, cur, h1, Nat.zero_le _, h3⟩⟩
  obtain ⟨ao, cap, rfl, h4, h5, h6, h7⟩ := h2.view encE_len
  exact jvalid43_any l ao cap h4 h5 (Lib.hid fun x hx => by have := hs x hx; omega) w (Lib.hid h6)
theorem lineN_cut (r : List UInt8) : lineN r = match cutN r with | some m => m.length + 1 | none => 0 := rfl
theorem cut_take {r m : List UInt8} (h : cutN r = some m) : r.take m.length = m ∧ m.length + 1 ≤ r.length := by
  obtain ⟨_, u, rfl⟩ := cutN_iff.1 h
  exact ⟨List.take_left, by simp⟩
theorem ent_read {r m : List UInt8} (h : cutN r = some m) : (readO m = none → entO r = none) ∧ ∀ x t, readO m = some (x, t) → entO r = some (x, t, m.length + 1) := by
  rw [entO_cut h]
  exact ⟨fun h => by rw [h], fun x t h => by rw [h]⟩
/-- The bytes around the last space of a line. -/
theorem line_bytes {x : Ent} {t : Nat} (hw : WordsOk x) (p u : List UInt8) (j : Nat) (hj : j ≤ (decDigits t).length) :
    ∃ (c : UInt8) (hk : p.length + (lineE x).length + j - 1 < (p ++ (lineE x ++ (decDigits t ++ 10 :: u))).length), (p ++ (lineE x ++ (decDigits t ++ 10 :: u)))[p.length + (lineE x).length + j - 1] = c ∧ (c = 32 ↔ j = 0) := by
  have hl : 1 ≤ (lineE x).length := by unfold lineE; simp; omega
  have hk : p.length + (lineE x).length + j - 1 < (p ++ (lineE x ++ (decDigits t ++ 10 :: u))).length := by simp; omega
  refine ⟨_, hk, rfl, ?_⟩
  rw [List.getElem_append_right (by omega)]
  cases j with
  | zero =>
    have e : (lineE x)[(lineE x).length - 1]'(by omega) = 32 := by
      obtain ⟨Y, hY⟩ : ∃ Y, lineE x = Y ++ [32] := ⟨itoa x.day ++ 32 :: (itoa x.kind ++ 32 :: by_ x.name), by unfold lineE; simp⟩
      simp [hY]
    have e2 : p.length + (lineE x).length + 0 - 1 - p.length = (lineE x).length - 1 := by omega
    rw [List.getElem_append_left (by omega)]
    simp only [e2, e]
  | succ i =>
    have e2 : p.length + (lineE x).length + (i + 1) - 1 - p.length = (lineE x).length + i := by omega
    simp only [e2]
    rw [List.getElem_append_right (by omega), List.getElem_append_left (by omega)]
    have := dec_noB (c := 32) (by decide) t _ (List.getElem_mem (l := decDigits t) (n := (lineE x).length + i - (lineE x).length) (by omega))
    constructor
    · intro h; exact absurd h this
    · intro h; omega
set_option maxRecDepth 100000 in
set_option maxHeartbeats 4000000 in
theorem refgood_v (b : List UInt8) (v : Value) (hbl : b.length ≤ 1000000) (w : World) (hv : IsB b v w) :
    Calls Tryz.prog 48 #[v] w fun e w' => (∃ y, e = .returned (.tuple #[y, .int .i64 ((goodJ b).2.1 : Nat), .int .i64 (goodJ b).2.2]) ∧ Hid (w'.ownsRow w.heap.size 39 3 y (goodJ b).1.length ((goodJ b).1.flatMap encE))) ∧ Below w.heap.size w w' := by
  obtain ⟨i0, hi, hz0, hz1, hz2⟩ := info_parts infoEnt
  obtain ⟨a, n, c, rfl, hn0, hnc, hcm⟩ := hv.shape
  have hv0 := Lib.hid hv
  have hbl0 := Lib.hid hbl
  replace hn0 := Lib.hid hn0
  obtain ⟨G, hG⟩ : ∃ G, goodJ b = G := ⟨_, rfl⟩
  rw [hG]
  replace hG := Lib.hid hG
  have hn6 : n ≤ 1000000 := by rw [hn0.out]; exact hbl
  clear hv hbl
  go_enter Tryz.func48, Tryz.ntmps48
  go_wp2_with fail
  go_loopg [6, 5] n (fun g i y wr => ∃ (at_ : Nat) (l : List Ent) (v0 : Value) (fu : Nat), v0 = y ∧ at_ ≤ n ∧ i = .int .i64 (at_ : Int) ∧ Hid (g = n - at_) ∧ Hid (goodF fu b at_ l = G ∧ n ≤ fu + at_ ∧ l.length ≤ 1000 ∧ ∀ x ∈ l, x.name.size ≤ 10000) ∧ Below w.heap.size w wr ∧ Hid (wr.ownsRow w.heap.size 39 3 y l.length (l.flatMap encE)))
  case atStart => exact ⟨0, [], _, n, rfl, Nat.zero_le _, rfl, Lib.hid rfl, Lib.hid ⟨by rw [hn0.out]; exact hG.out, by omega, by simp, by simp⟩, Below.refl _ _, Lib.hid (World.ownsRow_nil _ _ _ _)⟩
  case round =>
    obtain ⟨at_, l, yv, fu, rfl, hat, rfl, hr, hg, HB, ho⟩ := hrel
    by_cases hlt : at_ < n
    rotate_left
    · have hE : Hid (G = (l, at_, 0)) := Lib.hid (by
        have h1 := hg.out.1
        rw [goodF_end (by have := hn0.out; omega)] at h1
        exact h1.symm)
      go_wp2_with fail
      exact bodyPost_ret (v := .tuple #[yv, .int .i64 (at_ : Int), .int .i64 0]) (by simp [results, Tryz.results48, go_sem]) rfl ⟨⟨yv, by rw [hE.out], by rw [hE.out]; exact ho⟩, HB⟩
    have hbl' : Hid (at_ < b.length) := Lib.hid (by rw [← hn0.out]; exact hlt)
    obtain ⟨fu, rfl⟩ : ∃ k, fu = k + 1 := ⟨fu - 1, by have := hg.out.2.1; omega⟩
    have hstop : ∀ er, nextJ (b.take at_) l (b.drop at_) = .error er → Hid (G = (l, at_, er)) := fun er h => Lib.hid (by
      have h1 := hg.out.1
      rw [goodF_stop hbl'.out h] at h1
      exact h1.symm)
    replace hstop := Lib.hid hstop
    obtain ⟨A1, hs1, hB1⟩ := (hv0.out.up HB).lo at_ hat
    have HL := Lib.hid (line_v (b.drop at_) _ wr hB1)
    rw [lineN_cut] at HL
    clear hB1
    cases hcut : cutN (b.drop at_) with
    | none =>
      rw [hcut] at HL
      have hE := hstop.out 7 (by unfold nextJ; rw [entO_nocut hcut])
      clear hcut
      go_wp2_with fail
      refine HL.out.mono ?_
      rintro e w1 ⟨rfl, rfl⟩
      go_wp2_with fail
      exact bodyPost_ret (v := .tuple #[yv, .int .i64 (at_ : Int), .int .i64 7]) (by simp [results, Tryz.results48, go_sem]) rfl ⟨⟨yv, by rw [hE.out], by rw [hE.out]; exact ho⟩, HB⟩
    | some m =>
      rw [hcut] at HL
      dsimp only at HL
      obtain ⟨hmt, hml⟩ := cut_take hcut
      obtain ⟨her1, her2⟩ := ent_read hcut
      rw [List.length_drop] at hml
      obtain ⟨M, hM⟩ : ∃ M, m.length = M := ⟨_, rfl⟩
      rw [hM] at HL hml hmt her2
      obtain ⟨e, he⟩ : ∃ e, at_ + M = e := ⟨_, rfl⟩
      have hen : e + 1 ≤ n := by have := hn0.out; omega
      have w1 : IntKind.i64.wrap ((at_ : Int) + ((M + 1 : Nat) : Int)) = (e : Int) + 1 := by rw [IntWalk.i64_in _ (by omega)]; omega
      have w1' : IntKind.i64.wrap ((at_ : Int) + ((M : Int) + 1)) = (e : Int) + 1 := by rw [IntWalk.i64_in _ (by omega)]; omega
      have w2 : IntKind.i64.wrap ((e : Int) + 1 - 1) = (e : Int) := by rw [IntWalk.i64_in _ (by omega)]; omega
      have w2' : IntKind.i64.wrap (e : Int) = (e : Int) := IntWalk.i64_in _ (by omega)
      obtain ⟨A2, hs2, hB2⟩ := (hv0.out.up HB).lh at_ e (by omega) (by omega)
      rw [show e - at_ = M by omega, hmt] at hB2
      have hcv : (convert 23 9 (.slice A2 (e - at_) (c - at_))).run Tryz.prog wr = .ok (.string ⟨m.toArray⟩) wr := by rw [show e - at_ = M by omega]; exact hB2.str
      obtain ⟨ms, hms⟩ : ∃ ms : ByteArray, (⟨m.toArray⟩ : ByteArray) = ms := ⟨_, rfl⟩
      have hmb : by_ ms = m := by rw [← hms]
      rw [hms] at hcv
      have HR := Lib.hid (refread_v ms (by rw [← by_len, hmb, hM]; omega) wr)
      rw [hmb] at HR
      have hmM : ((M : Int) + 1 == 0) = false := by simp; omega
      clear hB2 hms hmb hcut hmt
      go_wp2_with fail
      refine HL.out.mono ?_
      rintro e1 wq ⟨rfl, rfl⟩
      clear HL
      go_wp2_with fail
      refine HR.out.mono ?_
      rintro e1 wr2 ⟨⟨xd, xk, xn, sv, ok, rfl, q1, q2, q3⟩, hb2⟩
      replace ho := Lib.hid (World.ownsRow_up ho.out hb2)
      replace HB := below_then HB hb2
      clear hb2 HR hs1 hs2 hcv
      go_upto_region 8 with fail
      generalize hWW : World.alloc _ _ = W3
      have kx : At W3 wr2.heap.size 39 #[.int .i64 xd, .int .i64 xk, .string xn] := by rw [← hWW]; exact At.new' rfl
      have hbW : Below wr2.heap.size wr2 W3 := by rw [← hWW]; exact below_al (Below.refl _ _) _
      clear hWW
      have HB3 := below_then HB hbW
      replace ho := Lib.hid (World.ownsRow_up ho.out hbW)
      clear hbW HB
      cases hrd : readO m with
      | none =>
        have hok := q2.out hrd
        subst hok
        have hE := hstop.out 7 (by unfold nextJ; rw [her1 hrd])
        clear hrd q1 q2 her1 her2
        go_wp2_with fail
        exact bodyPost_ret (v := .tuple #[yv, .int .i64 (at_ : Int), .int .i64 7]) (by simp [results, Tryz.results48, go_sem]) rfl ⟨⟨yv, by rw [hE.out], by rw [hE.out]; exact ho⟩, HB3⟩
      | some r =>
        obtain ⟨x, t⟩ := r
        obtain ⟨rfl, rfl, rfl⟩ := q1.out _ _ hrd
        have hent := her2 _ _ hrd
        obtain ⟨hMe, ⟨u, hu⟩, hwk, htl⟩ := entO_iff.1 hent
        obtain ⟨LL, hLL⟩ : ∃ LL, (lineE ⟨xd, xk, xn⟩).length = LL := ⟨_, rfl⟩
        obtain ⟨D, hD⟩ : ∃ D, (decDigits t).length = D := ⟨_, rfl⟩
        have hLp : 1 ≤ LL := by rw [← hLL]; unfold lineE; simp; omega
        rw [List.length_append, hLL, hD] at hMe
        obtain ⟨f, hf⟩ : ∃ f, at_ + LL = f := ⟨_, rfl⟩
        have hfe : f + D = e := by omega
        have hbdec : b = b.take at_ ++ (lineE ⟨xd, xk, xn⟩ ++ (decDigits t ++ 10 :: u)) := by rw [← hu, List.take_append_drop]
        have htk : (b.take at_).length = at_ := by rw [List.length_take]; have := hn0.out; omega
        have hbyte : Hid (∀ j, j ≤ D → ∃ (c : UInt8) (hk : f + j - 1 < b.length), b[f + j - 1]'hk = c ∧ (c = 32 ↔ j = 0)) := Lib.hid (by
          intro j hj
          obtain ⟨c, hk, h1, h2⟩ := line_bytes hwk (b.take at_) u j (by rw [hD]; exact hj)
          simp only [htk, hLL, hf, ← hbdec] at hk h1
          exact ⟨c, hk, h1, h2⟩)
        obtain ⟨A3, hs3, hB3⟩ := (hv0.out.up HB3).hi f (by omega)
        have hpre : b.take f = b.take at_ ++ lineE ⟨xd, xk, xn⟩ := by
          have h1 := congrArg (List.take f) hbdec
          rw [h1, List.take_append, htk, List.take_of_length_le (l := b.take at_) (by omega), show f - at_ = LL by omega, List.take_left' hLL]
        have HSu := Lib.hid (refsum_v _ _ W3 hB3)
        obtain ⟨S, hS⟩ : ∃ S, sumB (b.take f) = S := ⟨_, rfl⟩
        rw [hS] at HSu
        have hSS : sumF (sumB (b.take at_)) (lineE ⟨xd, xk, xn⟩) = S := by rw [← hS, hpre]; exact (sumF_app 7 _ _).symm
        have hwk2 := hwk.bd.2
        have hnm : Hid (xn.size ≤ 10000) := Lib.hid (by dsimp only at hwk2; omega)
        have hll : Hid (l.length ≤ 1000) := Lib.hid hg.out.2.2.1
        have hnml : Hid (∀ x ∈ l ++ [(⟨xd, xk, xn⟩ : Ent)], x.name.size ≤ 10000) := Lib.hid (by
          intro y hy
          rcases List.mem_append.1 hy with q | q
          · exact hg.out.2.2.2 y q
          · rw [List.mem_singleton] at q; rw [q]; exact hnm.out)
        have hnx : Hid (nextJ (b.take at_) l (b.drop at_) = if t ≠ S then .error 18 else if logV (l ++ [⟨xd, xk, xn⟩]) = false then .error 1 else .ok (⟨xd, xk, xn⟩, M + 1)) := Lib.hid (by
          unfold nextJ
          simp only [hent]
          rw [hSS])
        obtain ⟨hrow3, hform⟩ : RowAt encU 1 W3.heap.size W3 a b ∧ True := by
          obtain ⟨a', c', e', h2, h3, h4, h5⟩ := hv0.out.up HB3
          injection e' with e1 e2 e3
          subst e1
          exact ⟨h4, trivial⟩
        replace hrow3 := Lib.hid hrow3
        have he' := Lib.hid he
        have hfe' := Lib.hid hfe
        have hf' := Lib.hid hf
        have hen' := Lib.hid hen
        have hfn : f + D + 1 ≤ n := by omega
        have hf1 : 1 ≤ f := by omega
        clear hrd hent hMe hu hwk htl hbdec htk hpre hS hSS hwk2 hB3 hLL hD q1 q2 her1 her2 hform hml hM
        have eqe : (e : Int) = ((f + D : Nat) : Int) := by omega
        clear he hfe hf
        go_wp2_with fail
        go_loopg [11] D (fun g i wq => ∃ j : Nat, j ≤ D ∧ i = .int .i64 ((f + j : Nat) : Int) ∧ Hid (g = j) ∧ W3 = wq)
        case atStart => exact ⟨D, Nat.le_refl _, by first | rfl | go_num | (congr 1; omega), Lib.hid rfl, rfl⟩
        case round =>
          clear eqe w1 w1' w2 w2'
          obtain ⟨j, hj, rfl, hgj, rfl⟩ := hrel
          obtain ⟨c, hkb, hcb, hc32⟩ := hbyte.out j hj
          obtain ⟨bb, off, ha, c0, _⟩ := hrow3.out.byte (f + j - 1) hkb
          subst ha
          rw [hcb] at c0
          obtain ⟨q, hq⟩ : ∃ q, f + j - 1 = q := ⟨_, rfl⟩
          rw [hq] at c0
          have wq : IntKind.i64.wrap (((f + j : Nat) : Int) - 1) = (q : Int) := by rw [IntWalk.i64_in _ (by omega)]; omega
          have wq' : IntKind.i64.wrap ((f : Int) + (j : Int) - 1) = (q : Int) := by rw [IntWalk.i64_in _ (by omega)]; omega
          have hqn : q < n := by omega
          cases j with
          | succ i =>
            have hne : ((c.toNat : Int) != 32) = true := by
              rw [bne_iff_ne]
              intro h
              have := hc32.1 (by apply UInt8.toNat_inj.1; have : (32 : UInt8).toNat = 32 := rfl; omega)
              omega
            have hqi : (q : Int) = ((f + i : Nat) : Int) := by omega
            clear hc32 hcb
            go_wp2_with fail
            go_roundg i
            case measure => have := hgj.out; omega
            case rel => exact ⟨i, by omega, by first | rfl | go_num | (congr 1; omega), Lib.hid rfl, rfl⟩
          | zero =>
            have hne : ((c.toNat : Int) != 32) = false := by rw [hc32.2 rfl]; rfl
            clear hc32 hcb
            have wqz : IntKind.i64.wrap ((f : Int) - 1) = (q : Int) := by rw [IntWalk.i64_in _ (by omega)]; omega
            simp only [Nat.add_zero]
            go_wp2_with fail
            refine HSu.out.mono ?_
            rintro e1 wq2 ⟨rfl, rfl⟩
            clear HSu c0 hne wq wq' wqz
            by_cases h6 : t = S
            rotate_left
            · have hE := hstop.out 18 (by rw [hnx.out, if_pos h6])
              have h7 : ((S : Int) != (t : Int)) = true := by simp; omega
              clear h6
              go_wp2_with fail
              exact bodyPost_ret (v := .tuple #[yv, .int .i64 (at_ : Int), .int .i64 18]) (by simp [results, Tryz.results48, go_sem]) rfl ⟨⟨yv, by rw [hE.out], by rw [hE.out]; exact ho⟩, HB3⟩
            subst h6
            have h7 : ((t : Int) != (t : Int)) = false := by simp
            go_upto_region 15 with fail
            go_cut [12] (fun u wc => ∃ ao c, u = .slice ao (l.length + 1) c ∧ Hid (wc.ownsRow W3.heap.size 39 3 (.slice ao (l.length + 1) c) (l ++ [(⟨xd, xk, xn⟩ : Ent)]).length ((l ++ [(⟨xd, xk, xn⟩ : Ent)]).flatMap encE)) ∧ Below W3.heap.size W3 wc)
            case first =>
              obtain ⟨x0, x1, x2⟩ := kx.three
              refine wp_region_noPanic ?_
              refine wp_region_held_drew (S := (fun W => Below W3.heap.size W3 W ∧ At W wr2.heap.size 39 #[.int .i64 xd, .int .i64 xk, .string xn] ∧ W.cell? ⟨wr2.heap.size, 0, none⟩ = some (.int .i64 xd) ∧ W.cell? ⟨wr2.heap.size, 1, none⟩ = some (.int .i64 xk) ∧ W.cell? ⟨wr2.heap.size, 2, none⟩ = some (.string xn))) (by kernel_rfl) ?_ (fun hHeld => ?_)
              · (try dsimp only); (first | ((try go_split_ands); refine ⟨?_, ?_, ?_, ?_, ?_⟩; (focus ((repeat (first | with_reducible assumption | with_reducible exact Below.refl _ _ | with_reducible refine below_al ?_ _ | with_reducible refine below_drew ?_ | with_reducible refine below_drewN ?_ _ | with_reducible refine below_then ?_ hb6)); done)); (focus ((repeat (first | with_reducible assumption | with_reducible apply At.drw | with_reducible refine At.al ?_ _ | with_reducible refine At.bel ?_ hb6)); done)); (focus (first | (with_reducible refine At.c0' (t := 39) (x := .int .i64 xd) (y := .int .i64 xk) (z := .string xn) ?_; (repeat (first | with_reducible assumption | with_reducible apply At.drw | with_reducible refine At.al ?_ _ | with_reducible refine At.bel ?_ hb6)); done) | (with_reducible refine At.c1' (t := 39) (x := .int .i64 xd) (y := .int .i64 xk) (z := .string xn) ?_; (repeat (first | with_reducible assumption | with_reducible apply At.drw | with_reducible refine At.al ?_ _ | with_reducible refine At.bel ?_ hb6)); done) | (with_reducible refine At.c2' (t := 39) (x := .int .i64 xd) (y := .int .i64 xk) (z := .string xn) ?_; (repeat (first | with_reducible assumption | with_reducible apply At.drw | with_reducible refine At.al ?_ _ | with_reducible refine At.bel ?_ hb6)); done) )); (focus (first | (with_reducible refine At.c0' (t := 39) (x := .int .i64 xd) (y := .int .i64 xk) (z := .string xn) ?_; (repeat (first | with_reducible assumption | with_reducible apply At.drw | with_reducible refine At.al ?_ _ | with_reducible refine At.bel ?_ hb6)); done) | (with_reducible refine At.c1' (t := 39) (x := .int .i64 xd) (y := .int .i64 xk) (z := .string xn) ?_; (repeat (first | with_reducible assumption | with_reducible apply At.drw | with_reducible refine At.al ?_ _ | with_reducible refine At.bel ?_ hb6)); done) | (with_reducible refine At.c2' (t := 39) (x := .int .i64 xd) (y := .int .i64 xk) (z := .string xn) ?_; (repeat (first | with_reducible assumption | with_reducible apply At.drw | with_reducible refine At.al ?_ _ | with_reducible refine At.bel ?_ hb6)); done) )); (focus (first | (with_reducible refine At.c0' (t := 39) (x := .int .i64 xd) (y := .int .i64 xk) (z := .string xn) ?_; (repeat (first | with_reducible assumption | with_reducible apply At.drw | with_reducible refine At.al ?_ _ | with_reducible refine At.bel ?_ hb6)); done) | (with_reducible refine At.c1' (t := 39) (x := .int .i64 xd) (y := .int .i64 xk) (z := .string xn) ?_; (repeat (first | with_reducible assumption | with_reducible apply At.drw | with_reducible refine At.al ?_ _ | with_reducible refine At.bel ?_ hb6)); done) | (with_reducible refine At.c2' (t := 39) (x := .int .i64 xd) (y := .int .i64 xk) (z := .string xn) ?_; (repeat (first | with_reducible assumption | with_reducible apply At.drw | with_reducible refine At.al ?_ _ | with_reducible refine At.bel ?_ hb6)); done) ))) | go_keep)
              refine wpAnyH_take (i := 1) (v := ?_) (by simp only [List.getElem?_toArray, List.getElem?_cons_succ, List.getElem?_cons_zero]; rfl) (by kernel_rfl) (by kernel_rfl) (by kernel_rfl) (fun _ _ _ h => h) (Or.inl ⟨by rfl, ?_⟩) (by assumption) ?_
              rotate_left
              focus (intro w hSw; (try dsimp only at hSw); go_simp; first | done | with_reducible rfl)
              (try simp only [Act.put, List.setIfInBounds_toArray, List.set_cons_zero, List.set_cons_succ])
              refine wpAnyH_take (i := 3) (v := ?_) (by simp only [List.getElem?_toArray, List.getElem?_cons_succ, List.getElem?_cons_zero]; rfl) (by kernel_rfl) (by kernel_rfl) (by kernel_rfl) (fun _ _ _ h => h) (Or.inl ⟨by rfl, ?_⟩) (by assumption) ?_
              rotate_left
              focus (intro w hSw; (try dsimp only at hSw); go_simp; first | done | with_reducible rfl)
              (try simp only [Act.put, List.setIfInBounds_toArray, List.set_cons_zero, List.set_cons_succ])
              refine wpAnyH_ready (rs := [0, 4]) (by kernel_rfl) (by simp) ?_
              refine AllReadyH.cons (i := 0) (by simp only [List.getElem?_toArray, List.getElem?_cons_zero]; rfl) (fun K hK => ?_) ?_
              · go_simp
                refine hK.out _ _ ?_ (fun hHeld => ?_)
                · (try dsimp only); (first | ((try go_split_ands); refine ⟨?_, ?_, ?_, ?_, ?_⟩; (focus ((repeat (first | with_reducible assumption | with_reducible exact Below.refl _ _ | with_reducible refine below_al ?_ _ | with_reducible refine below_drew ?_ | with_reducible refine below_drewN ?_ _ | with_reducible refine below_then ?_ hb6)); done)); (focus ((repeat (first | with_reducible assumption | with_reducible apply At.drw | with_reducible refine At.al ?_ _ | with_reducible refine At.bel ?_ hb6)); done)); (focus (first | (with_reducible refine At.c0' (t := 39) (x := .int .i64 xd) (y := .int .i64 xk) (z := .string xn) ?_; (repeat (first | with_reducible assumption | with_reducible apply At.drw | with_reducible refine At.al ?_ _ | with_reducible refine At.bel ?_ hb6)); done) | (with_reducible refine At.c1' (t := 39) (x := .int .i64 xd) (y := .int .i64 xk) (z := .string xn) ?_; (repeat (first | with_reducible assumption | with_reducible apply At.drw | with_reducible refine At.al ?_ _ | with_reducible refine At.bel ?_ hb6)); done) | (with_reducible refine At.c2' (t := 39) (x := .int .i64 xd) (y := .int .i64 xk) (z := .string xn) ?_; (repeat (first | with_reducible assumption | with_reducible apply At.drw | with_reducible refine At.al ?_ _ | with_reducible refine At.bel ?_ hb6)); done) )); (focus (first | (with_reducible refine At.c0' (t := 39) (x := .int .i64 xd) (y := .int .i64 xk) (z := .string xn) ?_; (repeat (first | with_reducible assumption | with_reducible apply At.drw | with_reducible refine At.al ?_ _ | with_reducible refine At.bel ?_ hb6)); done) | (with_reducible refine At.c1' (t := 39) (x := .int .i64 xd) (y := .int .i64 xk) (z := .string xn) ?_; (repeat (first | with_reducible assumption | with_reducible apply At.drw | with_reducible refine At.al ?_ _ | with_reducible refine At.bel ?_ hb6)); done) | (with_reducible refine At.c2' (t := 39) (x := .int .i64 xd) (y := .int .i64 xk) (z := .string xn) ?_; (repeat (first | with_reducible assumption | with_reducible apply At.drw | with_reducible refine At.al ?_ _ | with_reducible refine At.bel ?_ hb6)); done) )); (focus (first | (with_reducible refine At.c0' (t := 39) (x := .int .i64 xd) (y := .int .i64 xk) (z := .string xn) ?_; (repeat (first | with_reducible assumption | with_reducible apply At.drw | with_reducible refine At.al ?_ _ | with_reducible refine At.bel ?_ hb6)); done) | (with_reducible refine At.c1' (t := 39) (x := .int .i64 xd) (y := .int .i64 xk) (z := .string xn) ?_; (repeat (first | with_reducible assumption | with_reducible apply At.drw | with_reducible refine At.al ?_ _ | with_reducible refine At.bel ?_ hb6)); done) | (with_reducible refine At.c2' (t := 39) (x := .int .i64 xd) (y := .int .i64 xk) (z := .string xn) ?_; (repeat (first | with_reducible assumption | with_reducible apply At.drw | with_reducible refine At.al ?_ _ | with_reducible refine At.bel ?_ hb6)); done) ))) | go_keep)
                clear hK K
                (try simp only [Act.put, List.setIfInBounds_toArray, List.set_cons_zero, List.set_cons_succ])
                refine wpAnyH_ready (rs := [2, 4]) (by kernel_rfl) (by simp) ?_
                refine AllReadyH.cons (i := 2) (by simp only [List.getElem?_toArray, List.getElem?_cons_succ, List.getElem?_cons_zero]; rfl) (fun K hK => ?_) ?_
                · (refine step_append_any _ rfl (.tmp 62) (.tmp 63) 35 rfl W3.heap.size 39 i0 (.agg #[.int .i64 0, .int .i64 0, .string ⟨#[]⟩]) 3 32 Tryz.underlying35 hi hz0 hz1 hz2 rfl (by decide) (.slice (some ⟨W3.heap.size, 0, none⟩) 0 0) 0 [] (by first | rfl | (simp [Act.eval]; done)) (own_empty (by first | exact At.new _ _ _ | exact At.new' rfl | exact At.al (At.new' rfl) _ | exact At.drw (At.new' rfl) | exact At.new' (by simp)) (by first | exact Nat.le_refl _ | (simp; done) | (simp; omega))) yv l.length (l.flatMap encE) (by first | rfl | (simp [Act.eval]; done)) (row_srcE (World.ownsRow_up ho.out (by go_split_ands; repeat (first | with_reducible assumption | with_reducible exact Below.refl _ _ | with_reducible refine below_al ?_ _ | with_reducible refine below_drew ?_ | with_reducible refine below_drewN ?_ _ | with_reducible refine below_then ?_ hb6)))) (by have := hll.out; unfold maxLen; omega) (by have := hll.out; omega) (Below.size (B := W3.heap.size) (w := W3) (by go_split_ands; repeat (first | with_reducible assumption | with_reducible exact Below.refl _ _ | with_reducible refine below_al ?_ _ | with_reducible refine below_drew ?_ | with_reducible refine below_drewN ?_ _ | with_reducible refine below_then ?_ hb6))) ?_; intro a5 c5 w5 ho5 hg5; have hB9 : Below W3.heap.size W3 w5 := below_grown (by go_split_ands; repeat (first | with_reducible assumption | with_reducible exact Below.refl _ _ | with_reducible refine below_al ?_ _ | with_reducible refine below_drew ?_ | with_reducible refine below_drewN ?_ _ | with_reducible refine below_then ?_ hb6)) hg5 (fun j hj => by have hj : some (W3.heap.size) = some j := hj; injection hj with hj; first | omega | (simp at hj; omega)); have kx9 : At w5 wr2.heap.size 39 #[.int .i64 xd, .int .i64 xk, .string xn] := At.bel kx hB9)
                  refine hK.out _ _ ?_ (fun hHeld => ?_)
                  · (try dsimp only); (first | ((try go_split_ands); refine ⟨?_, ?_, ?_, ?_, ?_⟩; (focus ((repeat (first | with_reducible assumption | with_reducible exact Below.refl _ _ | with_reducible refine below_al ?_ _ | with_reducible refine below_drew ?_ | with_reducible refine below_drewN ?_ _ | with_reducible refine below_then ?_ hb6)); done)); (focus ((repeat (first | with_reducible assumption | with_reducible apply At.drw | with_reducible refine At.al ?_ _ | with_reducible refine At.bel ?_ hb6)); done)); (focus (first | (with_reducible refine At.c0' (t := 39) (x := .int .i64 xd) (y := .int .i64 xk) (z := .string xn) ?_; (repeat (first | with_reducible assumption | with_reducible apply At.drw | with_reducible refine At.al ?_ _ | with_reducible refine At.bel ?_ hb6)); done) | (with_reducible refine At.c1' (t := 39) (x := .int .i64 xd) (y := .int .i64 xk) (z := .string xn) ?_; (repeat (first | with_reducible assumption | with_reducible apply At.drw | with_reducible refine At.al ?_ _ | with_reducible refine At.bel ?_ hb6)); done) | (with_reducible refine At.c2' (t := 39) (x := .int .i64 xd) (y := .int .i64 xk) (z := .string xn) ?_; (repeat (first | with_reducible assumption | with_reducible apply At.drw | with_reducible refine At.al ?_ _ | with_reducible refine At.bel ?_ hb6)); done) )); (focus (first | (with_reducible refine At.c0' (t := 39) (x := .int .i64 xd) (y := .int .i64 xk) (z := .string xn) ?_; (repeat (first | with_reducible assumption | with_reducible apply At.drw | with_reducible refine At.al ?_ _ | with_reducible refine At.bel ?_ hb6)); done) | (with_reducible refine At.c1' (t := 39) (x := .int .i64 xd) (y := .int .i64 xk) (z := .string xn) ?_; (repeat (first | with_reducible assumption | with_reducible apply At.drw | with_reducible refine At.al ?_ _ | with_reducible refine At.bel ?_ hb6)); done) | (with_reducible refine At.c2' (t := 39) (x := .int .i64 xd) (y := .int .i64 xk) (z := .string xn) ?_; (repeat (first | with_reducible assumption | with_reducible apply At.drw | with_reducible refine At.al ?_ _ | with_reducible refine At.bel ?_ hb6)); done) )); (focus (first | (with_reducible refine At.c0' (t := 39) (x := .int .i64 xd) (y := .int .i64 xk) (z := .string xn) ?_; (repeat (first | with_reducible assumption | with_reducible apply At.drw | with_reducible refine At.al ?_ _ | with_reducible refine At.bel ?_ hb6)); done) | (with_reducible refine At.c1' (t := 39) (x := .int .i64 xd) (y := .int .i64 xk) (z := .string xn) ?_; (repeat (first | with_reducible assumption | with_reducible apply At.drw | with_reducible refine At.al ?_ _ | with_reducible refine At.bel ?_ hb6)); done) | (with_reducible refine At.c2' (t := 39) (x := .int .i64 xd) (y := .int .i64 xk) (z := .string xn) ?_; (repeat (first | with_reducible assumption | with_reducible apply At.drw | with_reducible refine At.al ?_ _ | with_reducible refine At.bel ?_ hb6)); done) ))) | go_keep)
                  clear hK K
                  (try simp only [Act.put, List.setIfInBounds_toArray, List.set_cons_zero, List.set_cons_succ])
                  refine wpAnyH_ready (rs := [4]) (by kernel_rfl) (by simp) ?_
                  refine AllReadyH.cons (i := 4) (by simp only [List.getElem?_toArray, List.getElem?_cons_succ, List.getElem?_cons_zero]; rfl) (fun K hK => ?_) ?_
                  · go_simp
                    refine hK.out _ _ ?_ (fun hHeld => ?_)
                    · (try dsimp only); (first | ((try go_split_ands); refine ⟨?_, ?_, ?_, ?_, ?_⟩; (focus ((repeat (first | with_reducible assumption | with_reducible exact Below.refl _ _ | with_reducible refine below_al ?_ _ | with_reducible refine below_drew ?_ | with_reducible refine below_drewN ?_ _ | with_reducible refine below_then ?_ hb6)); done)); (focus ((repeat (first | with_reducible assumption | with_reducible apply At.drw | with_reducible refine At.al ?_ _ | with_reducible refine At.bel ?_ hb6)); done)); (focus (first | (with_reducible refine At.c0' (t := 39) (x := .int .i64 xd) (y := .int .i64 xk) (z := .string xn) ?_; (repeat (first | with_reducible assumption | with_reducible apply At.drw | with_reducible refine At.al ?_ _ | with_reducible refine At.bel ?_ hb6)); done) | (with_reducible refine At.c1' (t := 39) (x := .int .i64 xd) (y := .int .i64 xk) (z := .string xn) ?_; (repeat (first | with_reducible assumption | with_reducible apply At.drw | with_reducible refine At.al ?_ _ | with_reducible refine At.bel ?_ hb6)); done) | (with_reducible refine At.c2' (t := 39) (x := .int .i64 xd) (y := .int .i64 xk) (z := .string xn) ?_; (repeat (first | with_reducible assumption | with_reducible apply At.drw | with_reducible refine At.al ?_ _ | with_reducible refine At.bel ?_ hb6)); done) )); (focus (first | (with_reducible refine At.c0' (t := 39) (x := .int .i64 xd) (y := .int .i64 xk) (z := .string xn) ?_; (repeat (first | with_reducible assumption | with_reducible apply At.drw | with_reducible refine At.al ?_ _ | with_reducible refine At.bel ?_ hb6)); done) | (with_reducible refine At.c1' (t := 39) (x := .int .i64 xd) (y := .int .i64 xk) (z := .string xn) ?_; (repeat (first | with_reducible assumption | with_reducible apply At.drw | with_reducible refine At.al ?_ _ | with_reducible refine At.bel ?_ hb6)); done) | (with_reducible refine At.c2' (t := 39) (x := .int .i64 xd) (y := .int .i64 xk) (z := .string xn) ?_; (repeat (first | with_reducible assumption | with_reducible apply At.drw | with_reducible refine At.al ?_ _ | with_reducible refine At.bel ?_ hb6)); done) )); (focus (first | (with_reducible refine At.c0' (t := 39) (x := .int .i64 xd) (y := .int .i64 xk) (z := .string xn) ?_; (repeat (first | with_reducible assumption | with_reducible apply At.drw | with_reducible refine At.al ?_ _ | with_reducible refine At.bel ?_ hb6)); done) | (with_reducible refine At.c1' (t := 39) (x := .int .i64 xd) (y := .int .i64 xk) (z := .string xn) ?_; (repeat (first | with_reducible assumption | with_reducible apply At.drw | with_reducible refine At.al ?_ _ | with_reducible refine At.bel ?_ hb6)); done) | (with_reducible refine At.c2' (t := 39) (x := .int .i64 xd) (y := .int .i64 xk) (z := .string xn) ?_; (repeat (first | with_reducible assumption | with_reducible apply At.drw | with_reducible refine At.al ?_ _ | with_reducible refine At.bel ?_ hb6)); done) ))) | go_keep)
                    clear hK K
                    (try simp only [Act.put, List.setIfInBounds_toArray, List.set_cons_zero, List.set_cons_succ])
                    refine wpAnyH_ready (rs := [5]) (by kernel_rfl) (by simp) ?_
                    refine AllReadyH.cons (i := 5) (by simp only [List.getElem?_toArray, List.getElem?_cons_succ, List.getElem?_cons_zero]; rfl) (fun K hK => ?_) ?_
                    · (refine step_append_w _ rfl (.tmp 64) (.tmp 66) 35 rfl W3.heap.size 39 i0 (.agg #[.int .i64 0, .int .i64 0, .string ⟨#[]⟩]) 3 32 Tryz.underlying35 hi hz0 hz1 hz2 rfl (by decide) (.slice a5 (0 + l.length) c5) (0 + l.length) ([] ++ l.flatMap encE) (by first | rfl | (simp [Act.eval]; done)) (ho5.alloc _) ⟨w5.heap.size, 0, none⟩ 1 1 [.int .i64 xd, .int .i64 xk, .string xn] (by first | rfl | (simp [Act.eval]; done)) rfl (three_new (At.new _ _ _)) (by intro u hu; simp at hu; rcases hu with rfl | rfl | rfl <;> rfl) (by have := hll.out; unfold maxLen; omega) (by have := hll.out; omega) (Below.size (B := W3.heap.size) (w := W3) (by go_split_ands; repeat (first | with_reducible assumption | with_reducible exact Below.refl _ _ | with_reducible refine below_al ?_ _ | with_reducible refine below_drew ?_ | with_reducible refine below_drewN ?_ _ | with_reducible refine below_then ?_ hb6))) ?_; intro a7 c7 w7 ho7 hg7 hloc7; have hB7 : Below W3.heap.size W3 w7 := below_grown (by go_split_ands; repeat (first | with_reducible assumption | with_reducible exact Below.refl _ _ | with_reducible refine below_al ?_ _ | with_reducible refine below_drew ?_ | with_reducible refine below_drewN ?_ _ | with_reducible refine below_then ?_ hb6)) hg7 (fun j hj => (own_lt ho5 hj).2); have kx7 : At w7 wr2.heap.size 39 #[.int .i64 xd, .int .i64 xk, .string xn] := At.bel kx hB7)
                      refine hK.out _ _ ?_ (fun hHeld => ?_)
                      · (try dsimp only); (first | ((try go_split_ands); refine ⟨?_, ?_, ?_, ?_, ?_⟩; (focus ((repeat (first | with_reducible assumption | with_reducible exact Below.refl _ _ | with_reducible refine below_al ?_ _ | with_reducible refine below_drew ?_ | with_reducible refine below_drewN ?_ _ | with_reducible refine below_then ?_ hb6)); done)); (focus ((repeat (first | with_reducible assumption | with_reducible apply At.drw | with_reducible refine At.al ?_ _ | with_reducible refine At.bel ?_ hb6)); done)); (focus (first | (with_reducible refine At.c0' (t := 39) (x := .int .i64 xd) (y := .int .i64 xk) (z := .string xn) ?_; (repeat (first | with_reducible assumption | with_reducible apply At.drw | with_reducible refine At.al ?_ _ | with_reducible refine At.bel ?_ hb6)); done) | (with_reducible refine At.c1' (t := 39) (x := .int .i64 xd) (y := .int .i64 xk) (z := .string xn) ?_; (repeat (first | with_reducible assumption | with_reducible apply At.drw | with_reducible refine At.al ?_ _ | with_reducible refine At.bel ?_ hb6)); done) | (with_reducible refine At.c2' (t := 39) (x := .int .i64 xd) (y := .int .i64 xk) (z := .string xn) ?_; (repeat (first | with_reducible assumption | with_reducible apply At.drw | with_reducible refine At.al ?_ _ | with_reducible refine At.bel ?_ hb6)); done) )); (focus (first | (with_reducible refine At.c0' (t := 39) (x := .int .i64 xd) (y := .int .i64 xk) (z := .string xn) ?_; (repeat (first | with_reducible assumption | with_reducible apply At.drw | with_reducible refine At.al ?_ _ | with_reducible refine At.bel ?_ hb6)); done) | (with_reducible refine At.c1' (t := 39) (x := .int .i64 xd) (y := .int .i64 xk) (z := .string xn) ?_; (repeat (first | with_reducible assumption | with_reducible apply At.drw | with_reducible refine At.al ?_ _ | with_reducible refine At.bel ?_ hb6)); done) | (with_reducible refine At.c2' (t := 39) (x := .int .i64 xd) (y := .int .i64 xk) (z := .string xn) ?_; (repeat (first | with_reducible assumption | with_reducible apply At.drw | with_reducible refine At.al ?_ _ | with_reducible refine At.bel ?_ hb6)); done) )); (focus (first | (with_reducible refine At.c0' (t := 39) (x := .int .i64 xd) (y := .int .i64 xk) (z := .string xn) ?_; (repeat (first | with_reducible assumption | with_reducible apply At.drw | with_reducible refine At.al ?_ _ | with_reducible refine At.bel ?_ hb6)); done) | (with_reducible refine At.c1' (t := 39) (x := .int .i64 xd) (y := .int .i64 xk) (z := .string xn) ?_; (repeat (first | with_reducible assumption | with_reducible apply At.drw | with_reducible refine At.al ?_ _ | with_reducible refine At.bel ?_ hb6)); done) | (with_reducible refine At.c2' (t := 39) (x := .int .i64 xd) (y := .int .i64 xk) (z := .string xn) ?_; (repeat (first | with_reducible assumption | with_reducible apply At.drw | with_reducible refine At.al ?_ _ | with_reducible refine At.bel ?_ hb6)); done) ))) | go_keep)
                      clear hK K
                      (try simp only [Act.put, List.setIfInBounds_toArray, List.set_cons_zero, List.set_cons_succ])
                      refine wpAnyH_take (i := 6) (v := ?_) (by simp only [List.getElem?_toArray, List.getElem?_cons_succ, List.getElem?_cons_zero]; rfl) (by kernel_rfl) (by kernel_rfl) (by kernel_rfl) (fun _ _ _ h => h) (Or.inl ⟨by rfl, ?_⟩) (by assumption) ?_
                      rotate_left
                      focus (intro w hSw; (try dsimp only at hSw); go_simp; first | done | with_reducible rfl)
                      (try simp only [Act.put, List.setIfInBounds_toArray, List.set_cons_zero, List.set_cons_succ])
                      refine wpAnyH_done (by kernel_rfl) ?_ _
                      refine NoPanic.normal ?_
                      go_wp2_with fail
                      go_meet
                      exact ⟨a7, c7, by first | rfl | simp, Lib.hid (row_push (by simpa using ho7)), hB7⟩
                    exact AllReadyH.nil
                  exact AllReadyH.nil
                refine AllReadyH.cons (i := 4) (by simp only [List.getElem?_toArray, List.getElem?_cons_succ, List.getElem?_cons_zero]; rfl) (fun K hK => ?_) ?_
                · go_simp
                  refine hK.out _ _ ?_ (fun hHeld => ?_)
                  · (try dsimp only); (first | ((try go_split_ands); refine ⟨?_, ?_, ?_, ?_, ?_⟩; (focus ((repeat (first | with_reducible assumption | with_reducible exact Below.refl _ _ | with_reducible refine below_al ?_ _ | with_reducible refine below_drew ?_ | with_reducible refine below_drewN ?_ _ | with_reducible refine below_then ?_ hb6)); done)); (focus ((repeat (first | with_reducible assumption | with_reducible apply At.drw | with_reducible refine At.al ?_ _ | with_reducible refine At.bel ?_ hb6)); done)); (focus (first | (with_reducible refine At.c0' (t := 39) (x := .int .i64 xd) (y := .int .i64 xk) (z := .string xn) ?_; (repeat (first | with_reducible assumption | with_reducible apply At.drw | with_reducible refine At.al ?_ _ | with_reducible refine At.bel ?_ hb6)); done) | (with_reducible refine At.c1' (t := 39) (x := .int .i64 xd) (y := .int .i64 xk) (z := .string xn) ?_; (repeat (first | with_reducible assumption | with_reducible apply At.drw | with_reducible refine At.al ?_ _ | with_reducible refine At.bel ?_ hb6)); done) | (with_reducible refine At.c2' (t := 39) (x := .int .i64 xd) (y := .int .i64 xk) (z := .string xn) ?_; (repeat (first | with_reducible assumption | with_reducible apply At.drw | with_reducible refine At.al ?_ _ | with_reducible refine At.bel ?_ hb6)); done) )); (focus (first | (with_reducible refine At.c0' (t := 39) (x := .int .i64 xd) (y := .int .i64 xk) (z := .string xn) ?_; (repeat (first | with_reducible assumption | with_reducible apply At.drw | with_reducible refine At.al ?_ _ | with_reducible refine At.bel ?_ hb6)); done) | (with_reducible refine At.c1' (t := 39) (x := .int .i64 xd) (y := .int .i64 xk) (z := .string xn) ?_; (repeat (first | with_reducible assumption | with_reducible apply At.drw | with_reducible refine At.al ?_ _ | with_reducible refine At.bel ?_ hb6)); done) | (with_reducible refine At.c2' (t := 39) (x := .int .i64 xd) (y := .int .i64 xk) (z := .string xn) ?_; (repeat (first | with_reducible assumption | with_reducible apply At.drw | with_reducible refine At.al ?_ _ | with_reducible refine At.bel ?_ hb6)); done) )); (focus (first | (with_reducible refine At.c0' (t := 39) (x := .int .i64 xd) (y := .int .i64 xk) (z := .string xn) ?_; (repeat (first | with_reducible assumption | with_reducible apply At.drw | with_reducible refine At.al ?_ _ | with_reducible refine At.bel ?_ hb6)); done) | (with_reducible refine At.c1' (t := 39) (x := .int .i64 xd) (y := .int .i64 xk) (z := .string xn) ?_; (repeat (first | with_reducible assumption | with_reducible apply At.drw | with_reducible refine At.al ?_ _ | with_reducible refine At.bel ?_ hb6)); done) | (with_reducible refine At.c2' (t := 39) (x := .int .i64 xd) (y := .int .i64 xk) (z := .string xn) ?_; (repeat (first | with_reducible assumption | with_reducible apply At.drw | with_reducible refine At.al ?_ _ | with_reducible refine At.bel ?_ hb6)); done) ))) | go_keep)
                  clear hK K
                  (try simp only [Act.put, List.setIfInBounds_toArray, List.set_cons_zero, List.set_cons_succ])
                  refine wpAnyH_ready (rs := [2]) (by kernel_rfl) (by simp) ?_
                  refine AllReadyH.cons (i := 2) (by simp only [List.getElem?_toArray, List.getElem?_cons_succ, List.getElem?_cons_zero]; rfl) (fun K hK => ?_) ?_
                  · (refine step_append_any _ rfl (.tmp 62) (.tmp 63) 35 rfl W3.heap.size 39 i0 (.agg #[.int .i64 0, .int .i64 0, .string ⟨#[]⟩]) 3 32 Tryz.underlying35 hi hz0 hz1 hz2 rfl (by decide) (.slice (some ⟨W3.heap.size, 0, none⟩) 0 0) 0 [] (by first | rfl | (simp [Act.eval]; done)) (own_empty (by first | exact At.new _ _ _ | exact At.new' rfl | exact At.al (At.new' rfl) _ | exact At.drw (At.new' rfl) | exact At.new' (by simp)) (by first | exact Nat.le_refl _ | (simp; done) | (simp; omega))) yv l.length (l.flatMap encE) (by first | rfl | (simp [Act.eval]; done)) (row_srcE (World.ownsRow_up ho.out (by go_split_ands; repeat (first | with_reducible assumption | with_reducible exact Below.refl _ _ | with_reducible refine below_al ?_ _ | with_reducible refine below_drew ?_ | with_reducible refine below_drewN ?_ _ | with_reducible refine below_then ?_ hb6)))) (by have := hll.out; unfold maxLen; omega) (by have := hll.out; omega) (Below.size (B := W3.heap.size) (w := W3) (by go_split_ands; repeat (first | with_reducible assumption | with_reducible exact Below.refl _ _ | with_reducible refine below_al ?_ _ | with_reducible refine below_drew ?_ | with_reducible refine below_drewN ?_ _ | with_reducible refine below_then ?_ hb6))) ?_; intro a5 c5 w5 ho5 hg5; have hB9 : Below W3.heap.size W3 w5 := below_grown (by go_split_ands; repeat (first | with_reducible assumption | with_reducible exact Below.refl _ _ | with_reducible refine below_al ?_ _ | with_reducible refine below_drew ?_ | with_reducible refine below_drewN ?_ _ | with_reducible refine below_then ?_ hb6)) hg5 (fun j hj => by have hj : some (W3.heap.size) = some j := hj; injection hj with hj; first | omega | (simp at hj; omega)); have kx9 : At w5 wr2.heap.size 39 #[.int .i64 xd, .int .i64 xk, .string xn] := At.bel kx hB9; have kb : At w5 (W3.heap.size + 1) 39 #[.int .i64 xd, .int .i64 xk, .string xn] := at_grown (by first | exact At.new' (by simp) | exact At.new' rfl) hg5 (fun h => by have h : some W3.heap.size = some (W3.heap.size + 1) := h; injection h with h; omega))
                    refine hK.out _ _ ?_ (fun hHeld => ?_)
                    · (try dsimp only); (first | ((try go_split_ands); refine ⟨?_, ?_, ?_, ?_, ?_⟩; (focus ((repeat (first | with_reducible assumption | with_reducible exact Below.refl _ _ | with_reducible refine below_al ?_ _ | with_reducible refine below_drew ?_ | with_reducible refine below_drewN ?_ _ | with_reducible refine below_then ?_ hb6)); done)); (focus ((repeat (first | with_reducible assumption | with_reducible apply At.drw | with_reducible refine At.al ?_ _ | with_reducible refine At.bel ?_ hb6)); done)); (focus (first | (with_reducible refine At.c0' (t := 39) (x := .int .i64 xd) (y := .int .i64 xk) (z := .string xn) ?_; (repeat (first | with_reducible assumption | with_reducible apply At.drw | with_reducible refine At.al ?_ _ | with_reducible refine At.bel ?_ hb6)); done) | (with_reducible refine At.c1' (t := 39) (x := .int .i64 xd) (y := .int .i64 xk) (z := .string xn) ?_; (repeat (first | with_reducible assumption | with_reducible apply At.drw | with_reducible refine At.al ?_ _ | with_reducible refine At.bel ?_ hb6)); done) | (with_reducible refine At.c2' (t := 39) (x := .int .i64 xd) (y := .int .i64 xk) (z := .string xn) ?_; (repeat (first | with_reducible assumption | with_reducible apply At.drw | with_reducible refine At.al ?_ _ | with_reducible refine At.bel ?_ hb6)); done) )); (focus (first | (with_reducible refine At.c0' (t := 39) (x := .int .i64 xd) (y := .int .i64 xk) (z := .string xn) ?_; (repeat (first | with_reducible assumption | with_reducible apply At.drw | with_reducible refine At.al ?_ _ | with_reducible refine At.bel ?_ hb6)); done) | (with_reducible refine At.c1' (t := 39) (x := .int .i64 xd) (y := .int .i64 xk) (z := .string xn) ?_; (repeat (first | with_reducible assumption | with_reducible apply At.drw | with_reducible refine At.al ?_ _ | with_reducible refine At.bel ?_ hb6)); done) | (with_reducible refine At.c2' (t := 39) (x := .int .i64 xd) (y := .int .i64 xk) (z := .string xn) ?_; (repeat (first | with_reducible assumption | with_reducible apply At.drw | with_reducible refine At.al ?_ _ | with_reducible refine At.bel ?_ hb6)); done) )); (focus (first | (with_reducible refine At.c0' (t := 39) (x := .int .i64 xd) (y := .int .i64 xk) (z := .string xn) ?_; (repeat (first | with_reducible assumption | with_reducible apply At.drw | with_reducible refine At.al ?_ _ | with_reducible refine At.bel ?_ hb6)); done) | (with_reducible refine At.c1' (t := 39) (x := .int .i64 xd) (y := .int .i64 xk) (z := .string xn) ?_; (repeat (first | with_reducible assumption | with_reducible apply At.drw | with_reducible refine At.al ?_ _ | with_reducible refine At.bel ?_ hb6)); done) | (with_reducible refine At.c2' (t := 39) (x := .int .i64 xd) (y := .int .i64 xk) (z := .string xn) ?_; (repeat (first | with_reducible assumption | with_reducible apply At.drw | with_reducible refine At.al ?_ _ | with_reducible refine At.bel ?_ hb6)); done) ))) | go_keep)
                    clear hK K
                    (try simp only [Act.put, List.setIfInBounds_toArray, List.set_cons_zero, List.set_cons_succ])
                    refine wpAnyH_ready (rs := [5]) (by kernel_rfl) (by simp) ?_
                    refine AllReadyH.cons (i := 5) (by simp only [List.getElem?_toArray, List.getElem?_cons_succ, List.getElem?_cons_zero]; rfl) (fun K hK => ?_) ?_
                    · (refine step_append_w _ rfl (.tmp 64) (.tmp 66) 35 rfl W3.heap.size 39 i0 (.agg #[.int .i64 0, .int .i64 0, .string ⟨#[]⟩]) 3 32 Tryz.underlying35 hi hz0 hz1 hz2 rfl (by decide) (.slice a5 (0 + l.length) c5) (0 + l.length) ([] ++ l.flatMap encE) (by first | rfl | (simp [Act.eval]; done)) ho5 ⟨W3.heap.size + 1, 0, none⟩ 1 1 [.int .i64 xd, .int .i64 xk, .string xn] (by first | rfl | (simp [Act.eval]; done)) rfl (three_new kb) (by intro u hu; simp at hu; rcases hu with rfl | rfl | rfl <;> rfl) (by have := hll.out; unfold maxLen; omega) (by have := hll.out; omega) (Below.size (B := W3.heap.size) (w := W3) (by go_split_ands; repeat (first | with_reducible assumption | with_reducible exact Below.refl _ _ | with_reducible refine below_al ?_ _ | with_reducible refine below_drew ?_ | with_reducible refine below_drewN ?_ _ | with_reducible refine below_then ?_ hb6))) ?_; intro a7 c7 w7 ho7 hg7 hloc7; have hB7 : Below W3.heap.size W3 w7 := below_grown (by go_split_ands; repeat (first | with_reducible assumption | with_reducible exact Below.refl _ _ | with_reducible refine below_al ?_ _ | with_reducible refine below_drew ?_ | with_reducible refine below_drewN ?_ _ | with_reducible refine below_then ?_ hb6)) hg7 (fun j hj => (own_lt ho5 hj).2); have kx7 : At w7 wr2.heap.size 39 #[.int .i64 xd, .int .i64 xk, .string xn] := At.bel kx hB7)
                      refine hK.out _ _ ?_ (fun hHeld => ?_)
                      · (try dsimp only); (first | ((try go_split_ands); refine ⟨?_, ?_, ?_, ?_, ?_⟩; (focus ((repeat (first | with_reducible assumption | with_reducible exact Below.refl _ _ | with_reducible refine below_al ?_ _ | with_reducible refine below_drew ?_ | with_reducible refine below_drewN ?_ _ | with_reducible refine below_then ?_ hb6)); done)); (focus ((repeat (first | with_reducible assumption | with_reducible apply At.drw | with_reducible refine At.al ?_ _ | with_reducible refine At.bel ?_ hb6)); done)); (focus (first | (with_reducible refine At.c0' (t := 39) (x := .int .i64 xd) (y := .int .i64 xk) (z := .string xn) ?_; (repeat (first | with_reducible assumption | with_reducible apply At.drw | with_reducible refine At.al ?_ _ | with_reducible refine At.bel ?_ hb6)); done) | (with_reducible refine At.c1' (t := 39) (x := .int .i64 xd) (y := .int .i64 xk) (z := .string xn) ?_; (repeat (first | with_reducible assumption | with_reducible apply At.drw | with_reducible refine At.al ?_ _ | with_reducible refine At.bel ?_ hb6)); done) | (with_reducible refine At.c2' (t := 39) (x := .int .i64 xd) (y := .int .i64 xk) (z := .string xn) ?_; (repeat (first | with_reducible assumption | with_reducible apply At.drw | with_reducible refine At.al ?_ _ | with_reducible refine At.bel ?_ hb6)); done) )); (focus (first | (with_reducible refine At.c0' (t := 39) (x := .int .i64 xd) (y := .int .i64 xk) (z := .string xn) ?_; (repeat (first | with_reducible assumption | with_reducible apply At.drw | with_reducible refine At.al ?_ _ | with_reducible refine At.bel ?_ hb6)); done) | (with_reducible refine At.c1' (t := 39) (x := .int .i64 xd) (y := .int .i64 xk) (z := .string xn) ?_; (repeat (first | with_reducible assumption | with_reducible apply At.drw | with_reducible refine At.al ?_ _ | with_reducible refine At.bel ?_ hb6)); done) | (with_reducible refine At.c2' (t := 39) (x := .int .i64 xd) (y := .int .i64 xk) (z := .string xn) ?_; (repeat (first | with_reducible assumption | with_reducible apply At.drw | with_reducible refine At.al ?_ _ | with_reducible refine At.bel ?_ hb6)); done) )); (focus (first | (with_reducible refine At.c0' (t := 39) (x := .int .i64 xd) (y := .int .i64 xk) (z := .string xn) ?_; (repeat (first | with_reducible assumption | with_reducible apply At.drw | with_reducible refine At.al ?_ _ | with_reducible refine At.bel ?_ hb6)); done) | (with_reducible refine At.c1' (t := 39) (x := .int .i64 xd) (y := .int .i64 xk) (z := .string xn) ?_; (repeat (first | with_reducible assumption | with_reducible apply At.drw | with_reducible refine At.al ?_ _ | with_reducible refine At.bel ?_ hb6)); done) | (with_reducible refine At.c2' (t := 39) (x := .int .i64 xd) (y := .int .i64 xk) (z := .string xn) ?_; (repeat (first | with_reducible assumption | with_reducible apply At.drw | with_reducible refine At.al ?_ _ | with_reducible refine At.bel ?_ hb6)); done) ))) | go_keep)
                      clear hK K
                      (try simp only [Act.put, List.setIfInBounds_toArray, List.set_cons_zero, List.set_cons_succ])
                      refine wpAnyH_take (i := 6) (v := ?_) (by simp only [List.getElem?_toArray, List.getElem?_cons_succ, List.getElem?_cons_zero]; rfl) (by kernel_rfl) (by kernel_rfl) (by kernel_rfl) (fun _ _ _ h => h) (Or.inl ⟨by rfl, ?_⟩) (by assumption) ?_
                      rotate_left
                      focus (intro w hSw; (try dsimp only at hSw); go_simp; first | done | with_reducible rfl)
                      (try simp only [Act.put, List.setIfInBounds_toArray, List.set_cons_zero, List.set_cons_succ])
                      refine wpAnyH_done (by kernel_rfl) ?_ _
                      refine NoPanic.normal ?_
                      go_wp2_with fail
                      go_meet
                      exact ⟨a7, c7, by first | rfl | simp, Lib.hid (row_push (by simpa using ho7)), hB7⟩
                    exact AllReadyH.nil
                  exact AllReadyH.nil
                exact AllReadyH.nil
              refine AllReadyH.cons (i := 4) (by simp only [List.getElem?_toArray, List.getElem?_cons_succ, List.getElem?_cons_zero]; rfl) (fun K hK => ?_) ?_
              · go_simp
                refine hK.out _ _ ?_ (fun hHeld => ?_)
                · (try dsimp only); (first | ((try go_split_ands); refine ⟨?_, ?_, ?_, ?_, ?_⟩; (focus ((repeat (first | with_reducible assumption | with_reducible exact Below.refl _ _ | with_reducible refine below_al ?_ _ | with_reducible refine below_drew ?_ | with_reducible refine below_drewN ?_ _ | with_reducible refine below_then ?_ hb6)); done)); (focus ((repeat (first | with_reducible assumption | with_reducible apply At.drw | with_reducible refine At.al ?_ _ | with_reducible refine At.bel ?_ hb6)); done)); (focus (first | (with_reducible refine At.c0' (t := 39) (x := .int .i64 xd) (y := .int .i64 xk) (z := .string xn) ?_; (repeat (first | with_reducible assumption | with_reducible apply At.drw | with_reducible refine At.al ?_ _ | with_reducible refine At.bel ?_ hb6)); done) | (with_reducible refine At.c1' (t := 39) (x := .int .i64 xd) (y := .int .i64 xk) (z := .string xn) ?_; (repeat (first | with_reducible assumption | with_reducible apply At.drw | with_reducible refine At.al ?_ _ | with_reducible refine At.bel ?_ hb6)); done) | (with_reducible refine At.c2' (t := 39) (x := .int .i64 xd) (y := .int .i64 xk) (z := .string xn) ?_; (repeat (first | with_reducible assumption | with_reducible apply At.drw | with_reducible refine At.al ?_ _ | with_reducible refine At.bel ?_ hb6)); done) )); (focus (first | (with_reducible refine At.c0' (t := 39) (x := .int .i64 xd) (y := .int .i64 xk) (z := .string xn) ?_; (repeat (first | with_reducible assumption | with_reducible apply At.drw | with_reducible refine At.al ?_ _ | with_reducible refine At.bel ?_ hb6)); done) | (with_reducible refine At.c1' (t := 39) (x := .int .i64 xd) (y := .int .i64 xk) (z := .string xn) ?_; (repeat (first | with_reducible assumption | with_reducible apply At.drw | with_reducible refine At.al ?_ _ | with_reducible refine At.bel ?_ hb6)); done) | (with_reducible refine At.c2' (t := 39) (x := .int .i64 xd) (y := .int .i64 xk) (z := .string xn) ?_; (repeat (first | with_reducible assumption | with_reducible apply At.drw | with_reducible refine At.al ?_ _ | with_reducible refine At.bel ?_ hb6)); done) )); (focus (first | (with_reducible refine At.c0' (t := 39) (x := .int .i64 xd) (y := .int .i64 xk) (z := .string xn) ?_; (repeat (first | with_reducible assumption | with_reducible apply At.drw | with_reducible refine At.al ?_ _ | with_reducible refine At.bel ?_ hb6)); done) | (with_reducible refine At.c1' (t := 39) (x := .int .i64 xd) (y := .int .i64 xk) (z := .string xn) ?_; (repeat (first | with_reducible assumption | with_reducible apply At.drw | with_reducible refine At.al ?_ _ | with_reducible refine At.bel ?_ hb6)); done) | (with_reducible refine At.c2' (t := 39) (x := .int .i64 xd) (y := .int .i64 xk) (z := .string xn) ?_; (repeat (first | with_reducible assumption | with_reducible apply At.drw | with_reducible refine At.al ?_ _ | with_reducible refine At.bel ?_ hb6)); done) ))) | go_keep)
                clear hK K
                (try simp only [Act.put, List.setIfInBounds_toArray, List.set_cons_zero, List.set_cons_succ])
                refine wpAnyH_ready (rs := [0]) (by kernel_rfl) (by simp) ?_
                refine AllReadyH.cons (i := 0) (by simp only [List.getElem?_toArray, List.getElem?_cons_zero]; rfl) (fun K hK => ?_) ?_
                · go_simp
                  refine hK.out _ _ ?_ (fun hHeld => ?_)
                  · (try dsimp only); (first | ((try go_split_ands); refine ⟨?_, ?_, ?_, ?_, ?_⟩; (focus ((repeat (first | with_reducible assumption | with_reducible exact Below.refl _ _ | with_reducible refine below_al ?_ _ | with_reducible refine below_drew ?_ | with_reducible refine below_drewN ?_ _ | with_reducible refine below_then ?_ hb6)); done)); (focus ((repeat (first | with_reducible assumption | with_reducible apply At.drw | with_reducible refine At.al ?_ _ | with_reducible refine At.bel ?_ hb6)); done)); (focus (first | (with_reducible refine At.c0' (t := 39) (x := .int .i64 xd) (y := .int .i64 xk) (z := .string xn) ?_; (repeat (first | with_reducible assumption | with_reducible apply At.drw | with_reducible refine At.al ?_ _ | with_reducible refine At.bel ?_ hb6)); done) | (with_reducible refine At.c1' (t := 39) (x := .int .i64 xd) (y := .int .i64 xk) (z := .string xn) ?_; (repeat (first | with_reducible assumption | with_reducible apply At.drw | with_reducible refine At.al ?_ _ | with_reducible refine At.bel ?_ hb6)); done) | (with_reducible refine At.c2' (t := 39) (x := .int .i64 xd) (y := .int .i64 xk) (z := .string xn) ?_; (repeat (first | with_reducible assumption | with_reducible apply At.drw | with_reducible refine At.al ?_ _ | with_reducible refine At.bel ?_ hb6)); done) )); (focus (first | (with_reducible refine At.c0' (t := 39) (x := .int .i64 xd) (y := .int .i64 xk) (z := .string xn) ?_; (repeat (first | with_reducible assumption | with_reducible apply At.drw | with_reducible refine At.al ?_ _ | with_reducible refine At.bel ?_ hb6)); done) | (with_reducible refine At.c1' (t := 39) (x := .int .i64 xd) (y := .int .i64 xk) (z := .string xn) ?_; (repeat (first | with_reducible assumption | with_reducible apply At.drw | with_reducible refine At.al ?_ _ | with_reducible refine At.bel ?_ hb6)); done) | (with_reducible refine At.c2' (t := 39) (x := .int .i64 xd) (y := .int .i64 xk) (z := .string xn) ?_; (repeat (first | with_reducible assumption | with_reducible apply At.drw | with_reducible refine At.al ?_ _ | with_reducible refine At.bel ?_ hb6)); done) )); (focus (first | (with_reducible refine At.c0' (t := 39) (x := .int .i64 xd) (y := .int .i64 xk) (z := .string xn) ?_; (repeat (first | with_reducible assumption | with_reducible apply At.drw | with_reducible refine At.al ?_ _ | with_reducible refine At.bel ?_ hb6)); done) | (with_reducible refine At.c1' (t := 39) (x := .int .i64 xd) (y := .int .i64 xk) (z := .string xn) ?_; (repeat (first | with_reducible assumption | with_reducible apply At.drw | with_reducible refine At.al ?_ _ | with_reducible refine At.bel ?_ hb6)); done) | (with_reducible refine At.c2' (t := 39) (x := .int .i64 xd) (y := .int .i64 xk) (z := .string xn) ?_; (repeat (first | with_reducible assumption | with_reducible apply At.drw | with_reducible refine At.al ?_ _ | with_reducible refine At.bel ?_ hb6)); done) ))) | go_keep)
                  clear hK K
                  (try simp only [Act.put, List.setIfInBounds_toArray, List.set_cons_zero, List.set_cons_succ])
                  refine wpAnyH_ready (rs := [2]) (by kernel_rfl) (by simp) ?_
                  refine AllReadyH.cons (i := 2) (by simp only [List.getElem?_toArray, List.getElem?_cons_succ, List.getElem?_cons_zero]; rfl) (fun K hK => ?_) ?_
                  · (refine step_append_any _ rfl (.tmp 62) (.tmp 63) 35 rfl W3.heap.size 39 i0 (.agg #[.int .i64 0, .int .i64 0, .string ⟨#[]⟩]) 3 32 Tryz.underlying35 hi hz0 hz1 hz2 rfl (by decide) (.slice (some ⟨W3.heap.size + 1, 0, none⟩) 0 0) 0 [] (by first | rfl | (simp [Act.eval]; done)) (own_empty (by first | exact At.new _ _ _ | exact At.new' rfl | exact At.al (At.new' rfl) _ | exact At.drw (At.new' rfl) | exact At.new' (by simp)) (by first | exact Nat.le_refl _ | (simp; done) | (simp; omega))) yv l.length (l.flatMap encE) (by first | rfl | (simp [Act.eval]; done)) (row_srcE (World.ownsRow_up ho.out (by go_split_ands; repeat (first | with_reducible assumption | with_reducible exact Below.refl _ _ | with_reducible refine below_al ?_ _ | with_reducible refine below_drew ?_ | with_reducible refine below_drewN ?_ _ | with_reducible refine below_then ?_ hb6)))) (by have := hll.out; unfold maxLen; omega) (by have := hll.out; omega) (Below.size (B := W3.heap.size) (w := W3) (by go_split_ands; repeat (first | with_reducible assumption | with_reducible exact Below.refl _ _ | with_reducible refine below_al ?_ _ | with_reducible refine below_drew ?_ | with_reducible refine below_drewN ?_ _ | with_reducible refine below_then ?_ hb6))) ?_; intro a5 c5 w5 ho5 hg5; have hB9 : Below W3.heap.size W3 w5 := below_grown (by go_split_ands; repeat (first | with_reducible assumption | with_reducible exact Below.refl _ _ | with_reducible refine below_al ?_ _ | with_reducible refine below_drew ?_ | with_reducible refine below_drewN ?_ _ | with_reducible refine below_then ?_ hb6)) hg5 (fun j hj => by have hj : some (W3.heap.size + 1) = some j := hj; injection hj with hj; first | omega | (simp at hj; omega)); have kx9 : At w5 wr2.heap.size 39 #[.int .i64 xd, .int .i64 xk, .string xn] := At.bel kx hB9; have kb : At w5 W3.heap.size 39 #[.int .i64 xd, .int .i64 xk, .string xn] := at_grown (by first | exact At.al (At.new' rfl) _ | exact At.al (At.drw (At.new' rfl)) _) hg5 (fun h => by have h : some (W3.heap.size + 1) = some W3.heap.size := h; injection h with h; omega))
                    refine hK.out _ _ ?_ (fun hHeld => ?_)
                    · (try dsimp only); (first | ((try go_split_ands); refine ⟨?_, ?_, ?_, ?_, ?_⟩; (focus ((repeat (first | with_reducible assumption | with_reducible exact Below.refl _ _ | with_reducible refine below_al ?_ _ | with_reducible refine below_drew ?_ | with_reducible refine below_drewN ?_ _ | with_reducible refine below_then ?_ hb6)); done)); (focus ((repeat (first | with_reducible assumption | with_reducible apply At.drw | with_reducible refine At.al ?_ _ | with_reducible refine At.bel ?_ hb6)); done)); (focus (first | (with_reducible refine At.c0' (t := 39) (x := .int .i64 xd) (y := .int .i64 xk) (z := .string xn) ?_; (repeat (first | with_reducible assumption | with_reducible apply At.drw | with_reducible refine At.al ?_ _ | with_reducible refine At.bel ?_ hb6)); done) | (with_reducible refine At.c1' (t := 39) (x := .int .i64 xd) (y := .int .i64 xk) (z := .string xn) ?_; (repeat (first | with_reducible assumption | with_reducible apply At.drw | with_reducible refine At.al ?_ _ | with_reducible refine At.bel ?_ hb6)); done) | (with_reducible refine At.c2' (t := 39) (x := .int .i64 xd) (y := .int .i64 xk) (z := .string xn) ?_; (repeat (first | with_reducible assumption | with_reducible apply At.drw | with_reducible refine At.al ?_ _ | with_reducible refine At.bel ?_ hb6)); done) )); (focus (first | (with_reducible refine At.c0' (t := 39) (x := .int .i64 xd) (y := .int .i64 xk) (z := .string xn) ?_; (repeat (first | with_reducible assumption | with_reducible apply At.drw | with_reducible refine At.al ?_ _ | with_reducible refine At.bel ?_ hb6)); done) | (with_reducible refine At.c1' (t := 39) (x := .int .i64 xd) (y := .int .i64 xk) (z := .string xn) ?_; (repeat (first | with_reducible assumption | with_reducible apply At.drw | with_reducible refine At.al ?_ _ | with_reducible refine At.bel ?_ hb6)); done) | (with_reducible refine At.c2' (t := 39) (x := .int .i64 xd) (y := .int .i64 xk) (z := .string xn) ?_; (repeat (first | with_reducible assumption | with_reducible apply At.drw | with_reducible refine At.al ?_ _ | with_reducible refine At.bel ?_ hb6)); done) )); (focus (first | (with_reducible refine At.c0' (t := 39) (x := .int .i64 xd) (y := .int .i64 xk) (z := .string xn) ?_; (repeat (first | with_reducible assumption | with_reducible apply At.drw | with_reducible refine At.al ?_ _ | with_reducible refine At.bel ?_ hb6)); done) | (with_reducible refine At.c1' (t := 39) (x := .int .i64 xd) (y := .int .i64 xk) (z := .string xn) ?_; (repeat (first | with_reducible assumption | with_reducible apply At.drw | with_reducible refine At.al ?_ _ | with_reducible refine At.bel ?_ hb6)); done) | (with_reducible refine At.c2' (t := 39) (x := .int .i64 xd) (y := .int .i64 xk) (z := .string xn) ?_; (repeat (first | with_reducible assumption | with_reducible apply At.drw | with_reducible refine At.al ?_ _ | with_reducible refine At.bel ?_ hb6)); done) ))) | go_keep)
                    clear hK K
                    (try simp only [Act.put, List.setIfInBounds_toArray, List.set_cons_zero, List.set_cons_succ])
                    refine wpAnyH_ready (rs := [5]) (by kernel_rfl) (by simp) ?_
                    refine AllReadyH.cons (i := 5) (by simp only [List.getElem?_toArray, List.getElem?_cons_succ, List.getElem?_cons_zero]; rfl) (fun K hK => ?_) ?_
                    · (refine step_append_w _ rfl (.tmp 64) (.tmp 66) 35 rfl W3.heap.size 39 i0 (.agg #[.int .i64 0, .int .i64 0, .string ⟨#[]⟩]) 3 32 Tryz.underlying35 hi hz0 hz1 hz2 rfl (by decide) (.slice a5 (0 + l.length) c5) (0 + l.length) ([] ++ l.flatMap encE) (by first | rfl | (simp [Act.eval]; done)) ho5 ⟨W3.heap.size, 0, none⟩ 1 1 [.int .i64 xd, .int .i64 xk, .string xn] (by first | rfl | (simp [Act.eval]; done)) rfl (three_new kb) (by intro u hu; simp at hu; rcases hu with rfl | rfl | rfl <;> rfl) (by have := hll.out; unfold maxLen; omega) (by have := hll.out; omega) (Below.size (B := W3.heap.size) (w := W3) (by go_split_ands; repeat (first | with_reducible assumption | with_reducible exact Below.refl _ _ | with_reducible refine below_al ?_ _ | with_reducible refine below_drew ?_ | with_reducible refine below_drewN ?_ _ | with_reducible refine below_then ?_ hb6))) ?_; intro a7 c7 w7 ho7 hg7 hloc7; have hB7 : Below W3.heap.size W3 w7 := below_grown (by go_split_ands; repeat (first | with_reducible assumption | with_reducible exact Below.refl _ _ | with_reducible refine below_al ?_ _ | with_reducible refine below_drew ?_ | with_reducible refine below_drewN ?_ _ | with_reducible refine below_then ?_ hb6)) hg7 (fun j hj => (own_lt ho5 hj).2); have kx7 : At w7 wr2.heap.size 39 #[.int .i64 xd, .int .i64 xk, .string xn] := At.bel kx hB7)
                      refine hK.out _ _ ?_ (fun hHeld => ?_)
                      · (try dsimp only); (first | ((try go_split_ands); refine ⟨?_, ?_, ?_, ?_, ?_⟩; (focus ((repeat (first | with_reducible assumption | with_reducible exact Below.refl _ _ | with_reducible refine below_al ?_ _ | with_reducible refine below_drew ?_ | with_reducible refine below_drewN ?_ _ | with_reducible refine below_then ?_ hb6)); done)); (focus ((repeat (first | with_reducible assumption | with_reducible apply At.drw | with_reducible refine At.al ?_ _ | with_reducible refine At.bel ?_ hb6)); done)); (focus (first | (with_reducible refine At.c0' (t := 39) (x := .int .i64 xd) (y := .int .i64 xk) (z := .string xn) ?_; (repeat (first | with_reducible assumption | with_reducible apply At.drw | with_reducible refine At.al ?_ _ | with_reducible refine At.bel ?_ hb6)); done) | (with_reducible refine At.c1' (t := 39) (x := .int .i64 xd) (y := .int .i64 xk) (z := .string xn) ?_; (repeat (first | with_reducible assumption | with_reducible apply At.drw | with_reducible refine At.al ?_ _ | with_reducible refine At.bel ?_ hb6)); done) | (with_reducible refine At.c2' (t := 39) (x := .int .i64 xd) (y := .int .i64 xk) (z := .string xn) ?_; (repeat (first | with_reducible assumption | with_reducible apply At.drw | with_reducible refine At.al ?_ _ | with_reducible refine At.bel ?_ hb6)); done) )); (focus (first | (with_reducible refine At.c0' (t := 39) (x := .int .i64 xd) (y := .int .i64 xk) (z := .string xn) ?_; (repeat (first | with_reducible assumption | with_reducible apply At.drw | with_reducible refine At.al ?_ _ | with_reducible refine At.bel ?_ hb6)); done) | (with_reducible refine At.c1' (t := 39) (x := .int .i64 xd) (y := .int .i64 xk) (z := .string xn) ?_; (repeat (first | with_reducible assumption | with_reducible apply At.drw | with_reducible refine At.al ?_ _ | with_reducible refine At.bel ?_ hb6)); done) | (with_reducible refine At.c2' (t := 39) (x := .int .i64 xd) (y := .int .i64 xk) (z := .string xn) ?_; (repeat (first | with_reducible assumption | with_reducible apply At.drw | with_reducible refine At.al ?_ _ | with_reducible refine At.bel ?_ hb6)); done) )); (focus (first | (with_reducible refine At.c0' (t := 39) (x := .int .i64 xd) (y := .int .i64 xk) (z := .string xn) ?_; (repeat (first | with_reducible assumption | with_reducible apply At.drw | with_reducible refine At.al ?_ _ | with_reducible refine At.bel ?_ hb6)); done) | (with_reducible refine At.c1' (t := 39) (x := .int .i64 xd) (y := .int .i64 xk) (z := .string xn) ?_; (repeat (first | with_reducible assumption | with_reducible apply At.drw | with_reducible refine At.al ?_ _ | with_reducible refine At.bel ?_ hb6)); done) | (with_reducible refine At.c2' (t := 39) (x := .int .i64 xd) (y := .int .i64 xk) (z := .string xn) ?_; (repeat (first | with_reducible assumption | with_reducible apply At.drw | with_reducible refine At.al ?_ _ | with_reducible refine At.bel ?_ hb6)); done) ))) | go_keep)
                      clear hK K
                      (try simp only [Act.put, List.setIfInBounds_toArray, List.set_cons_zero, List.set_cons_succ])
                      refine wpAnyH_take (i := 6) (v := ?_) (by simp only [List.getElem?_toArray, List.getElem?_cons_succ, List.getElem?_cons_zero]; rfl) (by kernel_rfl) (by kernel_rfl) (by kernel_rfl) (fun _ _ _ h => h) (Or.inl ⟨by rfl, ?_⟩) (by assumption) ?_
                      rotate_left
                      focus (intro w hSw; (try dsimp only at hSw); go_simp; first | done | with_reducible rfl)
                      (try simp only [Act.put, List.setIfInBounds_toArray, List.set_cons_zero, List.set_cons_succ])
                      refine wpAnyH_done (by kernel_rfl) ?_ _
                      refine NoPanic.normal ?_
                      go_wp2_with fail
                      go_meet
                      exact ⟨a7, c7, by first | rfl | simp, Lib.hid (row_push (by simpa using ho7)), hB7⟩
                    exact AllReadyH.nil
                  exact AllReadyH.nil
                exact AllReadyH.nil
              exact AllReadyH.nil
            case rest =>
              obtain ⟨ao, co, rfl, hmo, hbc⟩ := hcut
              have HV := Lib.hid (jvalid43_own hmo.out hnml.out)
              obtain ⟨vb, hvb⟩ : ∃ vb, logV (l ++ [(⟨xd, xk, xn⟩ : Ent)]) = vb := ⟨_, rfl⟩
              rw [hvb] at HV hnx
              have HBc := below_then HB3 hbc
              replace ho := Lib.hid (World.ownsRow_up ho.out hbc)
              have hmo2 : Hid (wc.ownsRow w.heap.size 39 3 (.slice ao (l.length + 1) co) (l ++ [(⟨xd, xk, xn⟩ : Ent)]).length ((l ++ [(⟨xd, xk, xn⟩ : Ent)]).flatMap encE)) := Lib.hid (own_weak hmo.out HB3.size)
              clear hbc HB3 kx hmo h7
              cases vb
              · have hE := hstop.out 1 (by rw [hnx.out, if_neg (not_not_intro rfl), if_pos rfl])
                clear hvb
                go_wp2_with fail
                refine HV.out.mono ?_
                rintro e1 wq2 ⟨rfl, rfl⟩
                go_wp2_with fail
                exact bodyPost_ret (v := .tuple #[yv, .int .i64 (at_ : Int), .int .i64 1]) (by simp [results, Tryz.results48, go_sem]) rfl ⟨⟨yv, by rw [hE.out], by rw [hE.out]; exact ho⟩, HBc⟩
              · have hG2 : Hid (goodF fu b (at_ + (M + 1)) (l ++ [⟨xd, xk, xn⟩]) = G) := Lib.hid (by
                  have h := hnx.out
                  rw [if_neg (not_not_intro rfl), if_neg (by decide)] at h
                  rw [← goodF_go hbl'.out h]
                  exact hg.out.1)
                have hl2 : Hid ((l ++ [(⟨xd, xk, xn⟩ : Ent)]).length ≤ 1000) := Lib.hid (by
                  have hv2 := hvb
                  unfold logV at hv2
                  simp only [Bool.and_eq_true, decide_eq_true_eq] at hv2
                  exact hv2.1.1)
                have heM := he'.out
                have hen2 := hen'.out
                have w9 : IntKind.i64.wrap ((at_ : Int) + ((M : Int) + 1)) = ((at_ + (M + 1) : Nat) : Int) := by rw [IntWalk.i64_in _ (by omega)]; omega
                have hat2 : at_ + (M + 1) ≤ n := by omega
                clear hvb heM hen2
                go_wp2_with fail
                refine HV.out.mono ?_
                rintro e1 wq2 ⟨rfl, rfl⟩
                go_wp2_with fail
                go_roundg (n - (at_ + (M + 1)))
                case measure => have := hr.out; omega
                case rel => exact ⟨at_ + (M + 1), l ++ [⟨xd, xk, xn⟩], _, fu, rfl, hat2, by first | rfl | go_num, Lib.hid rfl, Lib.hid ⟨hG2.out, by have := hg.out.2.1; omega, hl2.out, hnml.out⟩, HBc, hmo2⟩

end Go.Proofs.YtpocmijfkjjboaaGreatDoor

/- journal: the reference's Decode. -/
set_option linter.unusedVariables false
namespace Go.Proofs.YtpocmijfkjjboaaGreatDoor
open Go.ChangeShapes Go.WideShapes Go.ChangeAt Go.RowKit

set_option maxRecDepth 100000 in
theorem refdecode_v (b : List UInt8) (v : Value) (hbl : b.length ≤ 1000000 ∨ 1048576 < b.length) (w : World) (hv : IsB b v w) :
    Calls Tryz.prog 27 #[v] w fun e w' => (∃ y, e = .returned (.tuple #[y, .int .i64 (decE b)]) ∧ Hid (w'.ownsRow w.heap.size 39 3 y (decL b).length ((decL b).flatMap encE))) ∧ Below w.heap.size w w' := by
  obtain ⟨a, n, c, rfl, hn0, hnc, hcm⟩ := hv.shape
  by_cases hbig : 1048576 < n
  · have hE : Hid (decE b = 4) := Lib.hid (by unfold decE; rw [if_pos (by omega)])
    have hL : Hid (decL b = []) := Lib.hid (by unfold decL; rw [hE.out]; rfl)
    have hbig' : (decide ((1048576 : Int) < (n : Int))) = true := by simp; omega
    clear hbl hn0 hbig hv
    go_enter Tryz.func27, Tryz.ntmps27
    go_wp2_with fail
    exact bodyPost_ret (v := .tuple #[.slice none 0 0, .int .i64 4]) (by simp [results, Tryz.results27, go_sem]) rfl ⟨⟨_, by rw [hE.out], by rw [hL.out]; exact Lib.hid (World.ownsRow_nil _ _ _ _)⟩, Below.refl _ _⟩
  have hbig' : (decide ((1048576 : Int) < (n : Int))) = false := by simp; omega
  have HG := Lib.hid (refgood_v b _ (by omega) w hv)
  obtain ⟨E, hE0⟩ : ∃ E, (goodJ b).2.2 = E := ⟨_, rfl⟩
  have hE : Hid (decE b = E) := Lib.hid (by unfold decE; rw [if_neg (by omega), hE0])
  rw [hE0] at HG
  obtain ⟨A, hA⟩ : ∃ A, (goodJ b).2.1 = A := ⟨_, rfl⟩
  rw [hA] at HG
  clear hbl hbig hv hn0 hE0 hA
  go_enter Tryz.func27, Tryz.ntmps27
  go_wp2_with fail
  refine HG.out.mono ?_
  rintro e w1 ⟨⟨y, rfl, ho⟩, HB⟩
  clear HG
  by_cases he : E = 0
  · subst he
    have hL : Hid (decL b = (goodJ b).1) := Lib.hid (by unfold decL; rw [if_pos hE.out])
    go_wp2_with fail
    exact bodyPost_ret (v := .tuple #[y, .int .i64 0]) (by simp [results, Tryz.results27, go_sem]) rfl ⟨⟨_, by rw [hE.out], by rw [hL.out]; exact ho⟩, HB⟩
  · have hL : Hid (decL b = []) := Lib.hid (by unfold decL; rw [hE.out, if_neg he])
    have hne : (E != 0) = true := by simp [he]
    clear he
    go_wp2_with fail
    exact bodyPost_ret (v := .tuple #[.slice none 0 0, .int .i64 E]) (by simp [results, Tryz.results27, go_sem]) rfl ⟨⟨_, by rw [hE.out], by rw [hL.out]; exact Lib.hid (World.ownsRow_nil _ _ _ _)⟩, HB⟩

end Go.Proofs.YtpocmijfkjjboaaGreatDoor

/- journal: slices of entries; clones by value; what Good and Recover answer. -/
set_option linter.unusedVariables false
namespace Go.Proofs.YtpocmijfkjjboaaGreatDoor
open Go.ChangeShapes Go.WideShapes Go.ChangeAt Go.RowKit

theorem elemE : Tryz.prog.underlying 35 = some (.slice (Tryz.prog.elem 35)) := by kernel_rfl
theorem sizeE (w : World) : (sizeOf (Tryz.prog.elem 35)).run Tryz.prog w = .ok 3 w := by
  have : Tryz.prog.elem 35 = 39 := by kernel_rfl
  rw [this]
  exact Tryz.sizeOf39 w
theorem addr_zero (x : Addr) : x.add 0 = x := by cases x; simp [Addr.add]
/-- 'l[:j]' of entries. -/
theorem IsE.hi {l : List Ent} {a : Option Addr} {n c : Nat} {w : World} (h : IsE l (.slice a n c) w) (j : Nat) (hj : j ≤ n) :
    (∀ W, (Instr.slice 35 (.slice a n c) none (some (.int .i64 (j : Int))) none).run Tryz.prog W = .ok (.slice a j c) W) ∧ IsE (l.take j) (.slice a j c) w := by
  obtain ⟨a', c', e, h1, h2, h3⟩ := h
  injection e with e1 e2 e3
  subst e1 e2 e3
  have hlen : (l.take j).length = j := by rw [List.length_take]; omega
  refine ⟨fun W => ?_, a, c, by rw [hlen], by rw [hlen]; omega, h2, fun k hk => ?_⟩
  · rw [run_slice_h W 35 a l.length c elemE .i64 j (by omega) (by omega), sizeE]
    simp only [Result.andThen_ok, Int.toNat_natCast, sliced, Nat.zero_mul, Nat.sub_zero]
    congr 2
    split
    · rfl
    · cases a with
      | none => rfl
      | some x => simp [addr_zero]
  · obtain ⟨b, off, e, hlt, hc⟩ := h3 k (by rw [hlen] at hk; omega)
    exact ⟨b, off, e, hlt, fun q u hu => hc q u (by rw [← hu]; simp)⟩
theorem IsE.shape {l : List Ent} {v : Value} {w : World} (h : IsE l v w) : ∃ a n c, v = .slice a n c ∧ n = l.length ∧ n ≤ c ∧ c ≤ 9223372036854775807 := by
  obtain ⟨a, c, h1, h2, h3, _⟩ := h
  exact ⟨a, l.length, c, h1, rfl, h2, h3⟩
theorem row_pushL {w : World} {base : Nat} {v : Value} {l : List Ent} {L : Nat} {xd xk : Int} {xn : ByteArray} (hL : l.length = L) (h : w.ownsRow base 39 3 v (L + 1) (l.flatMap encE ++ [.int .i64 xd, .int .i64 xk, .string xn])) : w.ownsRow base 39 3 v (l ++ [(⟨xd, xk, xn⟩ : Ent)]).length ((l ++ [(⟨xd, xk, xn⟩ : Ent)]).flatMap encE) := by
  rw [show (l ++ [(⟨xd, xk, xn⟩ : Ent)]).length = L + 1 by simp [hL], List.flatMap_append, List.flatMap_singleton]
  exact h
theorem rec_enc {l : List Ent} (h : logV l = true) : recN (encJ l) = 0 ∧ recB (encJ l) = encJ l ∧ recL (encJ l) = l ∧ gooN (encJ l) = (l.length, (encJ l).length, 0) := by
  obtain ⟨_, _, hz⟩ := dec_enc h
  have hg := goodJ_of (t := []) (e := 0) h (.inl ⟨rfl, rfl⟩)
  rw [List.append_nil] at hg
  have hn : ¬ 1048576 < (encJ l).length := by omega
  refine ⟨by unfold recN; rw [if_neg hn], ?_, by unfold recL; rw [if_neg hn, hg], by unfold gooN; rw [if_neg hn, hg]⟩
  unfold recB
  rw [if_neg hn, hg]
  simp
theorem rec_good {b : List UInt8} {l : List Ent} {n : Nat} {e : Int} (hb : b.length ≤ 1000000) (h : goodJ b = (l, n, e)) : recN b = 0 ∧ recB b = b.take n ∧ recL b = l ∧ gooN b = (l.length, n, 0) ∧ decE b = e := by
  have hn : ¬ 1048576 < b.length := by omega
  exact ⟨by unfold recN; rw [if_neg hn], by unfold recB; rw [if_neg hn, h], by unfold recL; rw [if_neg hn, h], by unfold gooN; rw [if_neg hn, h], by unfold decE; rw [if_neg hn, h]⟩
theorem names_le {l : List Ent} (h : logV l = true) : ∀ x ∈ l, x.name.size ≤ 10000 := fun x hx => by
  have := (WordsOk.of (logV_ent h hx)).bd.2
  omega
theorem logV_len {l : List Ent} (h : logV l = true) : l.length ≤ 1000 := by
  unfold logV at h
  simp only [Bool.and_eq_true, decide_eq_true_eq] at h
  exact h.1.1
/-- The clone of a row of entries, from any later world. -/
def ClonesE (l : List Ent) (V : Value) (L : Nat) (W : World) : Prop := ∀ u, Below W.heap.size W u → Calls Tryz.prog 37 #[V] u fun e w' => (∃ cy cc, e = .returned (.slice cy L cc) ∧ Hid (w'.ownsRow u.heap.size 39 3 (.slice cy L cc) L (l.flatMap encE))) ∧ Below u.heap.size u w'
theorem ClonesE.of_own {l : List Ent} {V : Value} {L : Nat} {W : World} {base : Nat} (h : W.ownsRow base 39 3 V l.length (l.flatMap encE)) (hl : l.length ≤ 100000) (hL : l.length = L) : ClonesE l V L W := by
  subst hL
  intro u hb
  exact cloneE_own (World.ownsRow_up h hb) hl
theorem ClonesE.of_row {l : List Ent} {ao : Option Addr} {cap L : Nat} {W : World} (h : RowAt encE 3 W.heap.size W ao l) (hf : (ao = none ∧ l.length = 0) ∨ ∃ b off, ao = some ⟨b, off, none⟩) (hl : l.length ≤ 100000) (hL : l.length = L) : ClonesE l (.slice ao L cap) L W := by
  subst hL
  intro u hb
  refine (cloneE_any l ao cap hl hf W.heap.size u (h.bel (Nat.le_refl _) hb)).mono ?_
  rintro e w' ⟨⟨v, rfl, ho⟩, hb2⟩
  obtain ⟨cy, cc, rfl⟩ := own_slice ho.out
  exact ⟨⟨cy, cc, rfl, ho⟩, hb2⟩
theorem ClonesE.up {l : List Ent} {V : Value} {L : Nat} {W W' : World} (hb : Below W.heap.size W W') (h : ClonesE l V L W) : ClonesE l V L W' := fun u hu => h u (below_then hb hu)
theorem limU16 {n : Int} (h : (Lit.int .u16 n).wf = true) : ∃ m : Nat, n = (m : Int) ∧ m < 65536 := by
  simp only [Lit.wf, Bool.and_eq_true, decide_eq_true_eq] at h
  have e1 : IntKind.u16.min = 0 := by decide
  have e2 : IntKind.u16.max = 65535 := by decide
  rw [e1, e2] at h
  exact ⟨n.toNat, by omega, by omega⟩
theorem limU8 {n : Int} (h : (Lit.int .u8 n).wf = true) : ∃ m : Nat, n = (m : Int) ∧ m < 256 := by
  simp only [Lit.wf, Bool.and_eq_true, decide_eq_true_eq] at h
  have e1 : IntKind.u8.min = 0 := by decide
  have e2 : IntKind.u8.max = 255 := by decide
  rw [e1, e2] at h
  exact ⟨n.toNat, by omega, by omega⟩

end Go.Proofs.YtpocmijfkjjboaaGreatDoor
