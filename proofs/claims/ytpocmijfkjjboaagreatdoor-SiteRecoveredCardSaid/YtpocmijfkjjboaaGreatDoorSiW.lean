/- the reference's site: Do at every entry; what an entry leaves is a state again. -/
import Derived.Test.YtpocmijfkjjboaaGreatDoorSiV
set_option linter.unusedVariables false
namespace Go.Proofs.YtpocmijfkjjboaaGreatDoor
open Go.ChangeShapes Go.WideShapes Go.ChangeAt Go.RowKit

set_option maxRecDepth 100000 in
set_option maxHeartbeats 1000000 in
theorem rdo_0 (s : St) (hok : s.ok) (xd xk : Int) (xn : ByteArray) (hz : xn.size ≤ 60) (hgv : givenS s ⟨xd, xk, xn⟩ ≠ 0) (g : Nat) (p : RV) (w : World) (hs : RefW w g s p) :
    Calls Tryz.prog 28 #[.pointer (some ⟨g, 0, none⟩), .agg #[.int .i64 xd, .int .i64 xk, .string xn]] w fun e w' => e = .returned (.int .i64 (givenS s ⟨xd, xk, xn⟩)) ∧ RDone w w' g s p := by
  have hs0 := Lib.hid hs
  have HG := Lib.hid (fun u (hb : Below w.heap.size w u) => given_any s hok xd xk xn hz g p u (hs.bel hb))
  obtain ⟨R, hR⟩ : ∃ R, givenS s ⟨xd, xk, xn⟩ = R := ⟨_, rfl⟩
  rw [hR] at HG hgv ⊢
  have h1 : (R != 0) = true := by simpa using hgv
  clear hs hgv hR
  go_enter Tryz.func28, Tryz.ntmps28
  go_wp2_with fail
  refine (HG.out _ (by repeat (first | with_reducible assumption | with_reducible exact Below.refl _ _ | with_reducible refine below_al ?_ _ | with_reducible refine below_drew ?_ | with_reducible refine below_drewN ?_ _ | with_reducible refine below_set ?_ (by dsimp only; omega) _))).mono ?_
  rintro e w1 ⟨rfl, hb1⟩
  have HB : Below w.heap.size w w1 := below_then (below_al (Below.refl _ _) _) hb1
  go_wp2_with fail
  go_ret
  exact ⟨rfl, RDone.same hs0.out HB⟩
theorem given_lt {s : St} {x : Ent} (h : givenS s x = 0) : s.kept.length ≤ 999 ∧ logV [x] = true := by
  unfold givenS at h
  cases hl : logV [x]
  · rw [if_pos hl] at h; cases h
  · rw [if_neg (by rw [hl]; decide)] at h
    by_cases h1 : 1000 ≤ s.kept.length
    · rw [if_pos h1] at h; cases h
    · exact ⟨by omega, rfl⟩
theorem rdo_any (s : St) (hok : s.ok) (xd xk : Int) (xn : ByteArray) (hz : xn.size ≤ 60) (g : Nat) (p : RV) (w : World) (hs : RefW w g s p) :
    Calls Tryz.prog 28 #[.pointer (some ⟨g, 0, none⟩), .agg #[.int .i64 xd, .int .i64 xk, .string xn]] w fun e w' => e = .returned (.int .i64 (doS s ⟨xd, xk, xn⟩).1) ∧ RDone w w' g (doS s ⟨xd, xk, xn⟩).2 p := by
  by_cases hgv : givenS s ⟨xd, xk, xn⟩ = 0
  · have hlt := Lib.hid (given_lt hgv).1
    have hR : ∀ A : Int × St, actS s ⟨xd, xk, xn⟩ = A → (if A.1 ≠ 0 then doS s ⟨xd, xk, xn⟩ = (A.1, s) else doS s ⟨xd, xk, xn⟩ = (0, withK A.2 ⟨xd, xk, xn⟩)) := fun A hA => by
      unfold doS
      rw [hgv, hA]
      by_cases h : A.1 = 0
      · rw [if_neg (not_not_intro h), if_neg (show ¬ (0 : Int) ≠ 0 from not_not_intro rfl), if_neg (not_not_intro h)]
        rfl
      · rw [if_pos h, if_neg (show ¬ (0 : Int) ≠ 0 from not_not_intro rfl), if_pos h]
    by_cases h1 : xk = 1
    · subst h1
      exact rdo_1 s hok xd xn hz hlt hgv g p _ w hs (Lib.hid (hR _ (by simp [actS])))
    by_cases h2 : xk = 2
    · subst h2
      exact rdo_2 s hok xd xn hz hlt hgv g p _ w hs (Lib.hid (hR _ (by simp [actS])))
    by_cases h6 : xk = 6
    · subst h6
      exact rdo_6 s hok xd xn hz hlt hgv g p _ w hs (Lib.hid (hR _ (by simp [actS])))
    by_cases h3 : xk = 3
    · subst h3
      exact rdo_3 s hok xd xn hz hlt hgv g p _ w hs (Lib.hid (hR _ (by simp [actS])))
    by_cases h4 : xk = 4
    · subst h4
      exact rdo_4 s hok xd xn hz hlt hgv g p _ w hs (Lib.hid (hR _ (by simp [actS])))
    exact rdo_5 s hok xd xk xn hz ⟨h1, h2, h6, h3, h4⟩ hlt hgv g p _ w hs (Lib.hid (hR _ (by unfold actS; rw [if_neg h1, if_neg h2, if_neg h6, if_neg h3, if_neg h4])))
  · have hE : doS s ⟨xd, xk, xn⟩ = (givenS s ⟨xd, xk, xn⟩, s) := by unfold doS; rw [if_pos hgv]
    rw [hE]
    exact rdo_0 s hok xd xk xn hz hgv g p w hs
theorem actS_ok (s : St) (hok : s.ok) (x : Ent) (hz : x.name.size ≤ 60) (hlt : s.kept.length ≤ 999) (h0 : (actS s x).1 = 0) : (withK (actS s x).2 x).ok := by
  have base : ∀ (a : List Nat) (o : List ByteArray) (b : Bool), a.length = s.tags.length → (∀ y ∈ a, y ≤ 2) → o.length ≤ s.kept.length + 1 → (∀ y ∈ o, y.size ≤ 60) → (withK { s with at_ := a, open_ := o, poured := b } x).ok := fun a o b h1 h2 h3 h4 =>
    ⟨hok.nodup, h1, h2, hok.tagsN, by show (s.kept ++ [x]).length ≤ 1000; simp; omega, by show o.length ≤ (s.kept ++ [x]).length; simp; omega, hok.tagsZ, h4, by
      show ∀ y ∈ s.kept ++ [x], y.name.size ≤ 60
      intro y hy
      rcases List.mem_append.1 hy with h | h
      · exact hok.keptZ y h
      · rw [List.mem_singleton.1 h]; exact hz⟩
  have mv : ∀ a b : Nat, b ≤ 2 → (moveS s x.name a b).1 = 0 → (withK (moveS s x.name a b).2 x).ok := fun a b hb h => by
    unfold moveS at h ⊢
    split
    · rename_i q; rw [if_pos q] at h; cases h
    · rename_i q
      rw [if_neg q] at h
      split
      · rename_i q2; rw [if_pos q2] at h; cases h
      · refine base _ s.open_ s.poured (by rw [List.length_set]; exact hok.len) ?_ (by have := hok.openN; omega) hok.openZ
        intro y hy
        rcases List.mem_or_eq_of_mem_set hy with h | h
        · exact hok.le y h
        · omega
  unfold actS at h0 ⊢
  split
  · rename_i q; rw [if_pos q] at h0; exact mv 0 1 (by decide) h0
  rename_i q; rw [if_neg q] at h0
  split
  · rename_i q; rw [if_pos q] at h0; exact mv 1 2 (by decide) h0
  rename_i q; rw [if_neg q] at h0
  split
  · rename_i q; rw [if_pos q] at h0; exact mv 1 0 (by decide) h0
  rename_i q; rw [if_neg q] at h0
  split
  · rename_i q; rw [if_pos q] at h0
    unfold checkS at h0 ⊢
    split
    · rename_i q2; rw [if_pos q2] at h0; cases h0
    · refine base s.at_ _ s.poured hok.len hok.le (by rw [List.length_append]; have := hok.openN; simp; omega) ?_
      intro y hy
      rcases List.mem_append.1 hy with h | h
      · exact hok.openZ y h
      · rw [List.mem_singleton.1 h]; exact hz
  rename_i q; rw [if_neg q] at h0
  split
  · rename_i q; rw [if_pos q] at h0
    unfold doneS at h0 ⊢
    split
    · rename_i q2; rw [if_pos q2] at h0; cases h0
    · refine base s.at_ _ s.poured hok.len hok.le (by have := hok.openN; have := List.length_eraseIdx_le s.open_ (ix s.open_ x.name); omega) ?_
      intro y hy
      exact hok.openZ y (List.mem_of_mem_eraseIdx hy)
  rename_i q; rw [if_neg q] at h0
  unfold pourS at h0 ⊢
  split
  · rename_i q2; rw [if_pos q2] at h0; cases h0
  · rename_i q2
    rw [if_neg q2] at h0
    split
    · rename_i q3; rw [if_pos q3] at h0; cases h0
    · exact base s.at_ s.open_ true hok.len hok.le (by have := hok.openN; omega) hok.openZ
theorem doS_ok (s : St) (hok : s.ok) (x : Ent) (hz : x.name.size ≤ 60) : (doS s x).2.ok := by
  unfold doS
  by_cases h1 : givenS s x = 0
  · rw [if_neg (by simpa using h1)]
    by_cases h2 : (actS s x).1 = 0
    · rw [if_neg (by simpa using h2)]
      exact actS_ok s hok x hz (given_lt h1).1 h2
    · rw [if_pos h2]
      exact hok
  · rw [if_pos h1]
    exact hok

end Go.Proofs.YtpocmijfkjjboaaGreatDoor
