/- site, plainly: checks that are opened and closed. -/
import Derived.Test.YtpocmijfkjjboaaSjH
set_option linter.unusedVariables false
namespace Go.Proofs.Ytpocmijfkjjboaa
open Go.ChangeShapes Go.WideShapes Go.ChangeAt Go.RowKit

theorem logV_one (d k : Int) (n : ByteArray) : logV [⟨d, k, n⟩] = entOk ⟨d, k, n⟩ := by
  unfold logV
  simp
theorem entOk_34 (d : Int) (n : ByteArray) : entOk ⟨d, 4, n⟩ = entOk ⟨d, 3, n⟩ := by
  unfold entOk
  simp
theorem lastDay_app (l : List Ent) (x : Ent) : lastDay (l ++ [x]) = x.day := by
  unfold lastDay
  rw [List.getLast?_concat]
theorem given_at (s : St) (d k : Int) (n : ByteArray) (hk : s.kept.length < 1000) (hd : d = lastDay s.kept) (hv : entOk ⟨d, k, n⟩ = true) : givenS s ⟨d, k, n⟩ = if s.poured then 13 else 0 := by
  unfold givenS
  rw [logV_one, hv, if_neg (by decide), if_neg (by omega), if_neg (by show ¬ (0 < s.kept.length ∧ d < lastDay s.kept); omega)]
theorem given_bad (s : St) (d k : Int) (n : ByteArray) (hv : entOk ⟨d, k, n⟩ = false) : givenS s ⟨d, k, n⟩ = 1 := by
  unfold givenS
  rw [logV_one, hv, if_pos rfl]
theorem act_three (s : St) (d : Int) (n : ByteArray) : actS s ⟨d, 3, n⟩ = checkS s n := rfl
theorem act_four (s : St) (d : Int) (n : ByteArray) : actS s ⟨d, 4, n⟩ = doneS s n := rfl
theorem filter_ne {l : List ByteArray} {n : ByteArray} (h : ¬ n ∈ l) : l.filter (fun y => !decide (y = n)) = l := by
  rw [List.filter_eq_self]
  intro y hy
  rw [decide_eq_false (fun e : y = n => h (e ▸ hy))]
  rfl
theorem erase_filter : ∀ (l : List ByteArray) (n : ByteArray), l.Nodup → n ∈ l → l.eraseIdx (ix l n) = l.filter (fun y => !decide (y = n))
  | [], _, _, h => by cases h
  | a :: l, n, hn, hm => by
    have hna := (List.nodup_cons.1 hn).1
    have hnl := (List.nodup_cons.1 hn).2
    by_cases e : a = n
    · subst e
      have : ix (a :: l) a = 0 := by unfold ix; rw [List.findIdx_cons]; simp
      rw [this, List.eraseIdx_cons_zero, List.filter_cons_of_neg (by simp), filter_ne hna]
    · have hml : n ∈ l := by
        rcases List.mem_cons.1 hm with q | q
        · exact absurd q.symm e
        · exact q
      have : ix (a :: l) n = ix l n + 1 := by unfold ix; rw [List.findIdx_cons]; simp [e]
      rw [this, List.eraseIdx_cons_succ, List.filter_cons_of_pos (by simp [e]), erase_filter l n hnl hml]
theorem doS_open {s : St} {x : Ent} (hn : s.open_.Nodup) (h : (doS s x).1 = 0) :
    (doS s x).2.open_ = (if x.kind = 3 then s.open_ ++ [x.name] else if x.kind = 4 then s.open_.filter (fun y => !decide (y = x.name)) else s.open_) ∧ (doS s x).2.open_.Nodup ∧ (x.kind = 4 → 0 < s.open_.length) := by
  obtain ⟨h1, h2, h3⟩ := doS_yes h
  rw [h3]
  show (actS s x).2.open_ = _ ∧ (actS s x).2.open_.Nodup ∧ _
  by_cases k3 : x.kind = 3
  · have ha : actS s x = checkS s x.name := by unfold actS; rw [if_neg (by omega), if_neg (by omega), if_neg (by omega), if_pos k3]
    rw [ha] at h2 ⊢
    rw [if_pos k3]
    unfold checkS at h2 ⊢
    cases hb : inB x.name s.open_
    · rw [if_neg (by decide)]
      have hnm : ¬ x.name ∈ s.open_ := fun e => by rw [inB_iff.2 e] at hb; cases hb
      refine ⟨rfl, ?_, fun e => by omega⟩
      show (s.open_ ++ [x.name]).Nodup
      rw [List.nodup_append]
      refine ⟨hn, by simp, fun a ha b hb e => ?_⟩
      rw [List.mem_singleton] at hb
      exact hnm (hb ▸ e ▸ ha)
    · rw [hb, if_pos rfl] at h2; cases h2
  · rw [if_neg k3]
    by_cases k4 : x.kind = 4
    · have ha : actS s x = doneS s x.name := by unfold actS; rw [if_neg (by omega), if_neg (by omega), if_neg (by omega), if_neg k3, if_pos k4]
      rw [ha] at h2 ⊢
      rw [if_pos k4]
      unfold doneS at h2 ⊢
      cases hb : inB x.name s.open_
      · rw [hb, if_pos rfl] at h2; cases h2
      · rw [if_neg (by decide)]
        have hm := inB_iff.1 hb
        have he := erase_filter s.open_ x.name hn hm
        refine ⟨he, ?_, fun _ => List.length_pos_of_mem hm⟩
        show (s.open_.eraseIdx (ix s.open_ x.name)).Nodup
        rw [he]
        exact hn.filter _
    · rw [if_neg k4]
      have : (actS s x).2.open_ = s.open_ := by
        unfold actS moveS pourS
        rw [if_neg (c := x.kind = 3) k3, if_neg (c := x.kind = 4) k4]
        split
        · split <;> (try split) <;> rfl
        split
        · split <;> (try split) <;> rfl
        split
        · split <;> (try split) <;> rfl
        · split <;> (try split) <;> rfl
      rw [this]
      exact ⟨rfl, hn, fun e => absurd e k4⟩
theorem doS_day {s : St} {x : Ent} (h : (doS s x).1 = 0) : lastDay (doS s x).2.kept = x.day := by
  rw [doS_kept h, lastDay_app]
theorem doS_at {s : St} {x : Ent} (h : givenS s x = 0) : doS s x = if (actS s x).1 ≠ 0 then ((actS s x).1, s) else (0, withK (actS s x).2 x) := by
  unfold doS
  rw [if_neg (not_not_intro h)]
  rfl
/-- What the law asks at the end. -/
theorem checks_end (s : St) (n : ByteArray) (hk : s.kept.length < 990) (f : Int) (s1 : St) (hf : doS s ⟨lastDay s.kept, 3, n⟩ = (f, s1)) (h1 : f ≠ 1) :
    (s.poured = true → f = 13) ∧ (s.poured = false → inB n s.open_ = true → f = 15) ∧
    (s.poured = false → inB n s.open_ = false → f = 0 ∧ readyS s1 = false ∧ doS s1 ⟨lastDay s.kept, 3, n⟩ = (15, s1) ∧ ∃ s2, doS s1 ⟨lastDay s.kept, 4, n⟩ = (0, s2) ∧ s2.open_ = s.open_ ∧ (doS s2 ⟨lastDay s.kept, 4, n⟩).1 = 9) := by
  have hv : entOk ⟨lastDay s.kept, 3, n⟩ = true := by
    cases hv : entOk ⟨lastDay s.kept, 3, n⟩
    · have hg := given_bad s _ 3 n hv
      unfold doS at hf
      rw [hg, if_pos (by decide)] at hf
      exact absurd (congrArg Prod.fst hf).symm h1
    · rfl
  have hg := given_at s _ 3 n (by omega) rfl hv
  refine ⟨fun hp => ?_, fun hp hb => ?_, fun hp hb => ?_⟩
  · rw [hp, if_pos rfl] at hg
    unfold doS at hf
    rw [hg, if_pos (by decide)] at hf
    exact (congrArg Prod.fst hf).symm
  · rw [hp, if_neg (by decide)] at hg
    rw [doS_at hg, act_three] at hf
    unfold checkS at hf
    rw [hb, if_pos rfl] at hf
    exact (congrArg Prod.fst hf).symm
  · rw [hp, if_neg (by decide)] at hg
    rw [doS_at hg, act_three] at hf
    unfold checkS at hf
    rw [hb, if_neg (Bool.false_ne_true), if_neg (by simp)] at hf
    have hf0 : (0 : Int) = f := congrArg Prod.fst hf
    have hs1 : withK { s with open_ := s.open_ ++ [n] } ⟨lastDay s.kept, 3, n⟩ = s1 := congrArg Prod.snd hf
    subst hf0
    clear hf
    have ho : s1.open_ = s.open_ ++ [n] := by rw [← hs1]; rfl
    have hkk : s1.kept = s.kept ++ [⟨lastDay s.kept, 3, n⟩] := by rw [← hs1]; rfl
    have hp1 : s1.poured = false := by rw [← hs1]; exact hp
    have hnm : ¬ n ∈ s.open_ := fun e => by rw [inB_iff.2 e] at hb; cases hb
    have hin : inB n s1.open_ = true := by rw [inB_iff, ho]; simp
    have hd1 : lastDay s.kept = lastDay s1.kept := by rw [hkk, lastDay_app]
    have hl1 : s1.kept.length < 1000 := by rw [hkk]; simp; omega
    have hg1 := given_at s1 _ 3 n hl1 hd1 hv
    have hv4 : entOk ⟨lastDay s.kept, 4, n⟩ = true := by rw [entOk_34]; exact hv
    have hg4 := given_at s1 _ 4 n hl1 hd1 hv4
    rw [hp1, if_neg (by decide)] at hg1 hg4
    refine ⟨rfl, ?_, ?_, ?_⟩
    · unfold readyS
      rw [ho]
      simp
    · rw [doS_at hg1, act_three]
      unfold checkS
      rw [hin, if_pos rfl]
      rfl
    · have hx : ix s1.open_ n = s.open_.length := by rw [ho]; exact ix_app_new hnm
      have hd4 : doS s1 ⟨lastDay s.kept, 4, n⟩ = (0, withK { s1 with open_ := s1.open_.eraseIdx (ix s1.open_ n) } ⟨lastDay s.kept, 4, n⟩) := by
        rw [doS_at hg4, act_four]
        unfold doneS
        rw [hin, if_neg (by simp), if_neg (by simp)]
      refine ⟨_, hd4, ?_, ?_⟩
      · show s1.open_.eraseIdx (ix s1.open_ n) = _
        rw [hx, ho, List.eraseIdx_append_of_length_le (Nat.le_refl _), Nat.sub_self]
        simp
      · obtain ⟨s2, hs2⟩ : ∃ s2, withK { s1 with open_ := s1.open_.eraseIdx (ix s1.open_ n) } ⟨lastDay s.kept, 4, n⟩ = s2 := ⟨_, rfl⟩
        have ho2 : s2.open_ = s.open_ := by
          rw [← hs2]
          show s1.open_.eraseIdx (ix s1.open_ n) = _
          rw [hx, ho, List.eraseIdx_append_of_length_le (Nat.le_refl _), Nat.sub_self]
          simp
        have hk2 : s2.kept = s1.kept ++ [⟨lastDay s.kept, 4, n⟩] := by rw [← hs2]; rfl
        have hp2 : s2.poured = false := by rw [← hs2]; exact hp1
        rw [hs2]
        have hg5 := given_at s2 (lastDay s.kept) 4 n (by rw [hk2, hkk]; simp; omega) (by rw [hk2, lastDay_app]) hv4
        rw [hp2, if_neg (by decide)] at hg5
        rw [doS_at hg5, act_four]
        unfold doneS
        rw [ho2, hb, if_pos rfl]
        rfl

end Go.Proofs.Ytpocmijfkjjboaa
