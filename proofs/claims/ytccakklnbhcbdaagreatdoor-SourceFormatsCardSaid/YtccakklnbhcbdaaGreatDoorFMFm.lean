import Derived.Test.YtccakklnbhcbdaaGreatDoorFSyD
set_option linter.unusedVariables false
namespace Go.Proofs.YtccakklnbhcbdaaGreatDoor
def lenL (l : List (List Int)) : Nat := (l.map List.length).sum
def numsD (d : Det) : Nat := d.mem.length + lenL d.boxes + lenL d.holes + d.rule.length + lenL (d.bars.map fun b => b.2) + lenL (d.runs.map fun b => b.2) + lenL d.laps + lenL (d.dems.map fun x => x.2.1) + lenL (d.dems.map fun x => x.2.2.flatten)
theorem lenL_app (l m : List (List Int)) : lenL (l ++ m) = lenL l + lenL m := by simp [lenL]
theorem lenL_one (n : List Int) : lenL [n] = n.length := by simp [lenL]
theorem lenL_cons (n : List Int) (l : List (List Int)) : lenL (n :: l) = n.length + lenL l := by simp [lenL]
theorem stepD_nums : ∀ (l : List (List UInt8 × List Int × List (List Int))) (n : List Int), lenL ((stepD l n).map fun x => x.2.1) = lenL (l.map fun x => x.2.1) ∧ lenL ((stepD l n).map fun x => x.2.2.flatten) ≤ lenL (l.map fun x => x.2.2.flatten) + n.length
 | [], n => ⟨rfl, by simp [stepD]⟩
 | [(m, z, l)], n => ⟨rfl, by simp [stepD, lenL]⟩
 | d :: e :: r, n => by
  have := stepD_nums (e :: r) n
  rw [stepD]
  ·rw [List.map_cons (l := stepD (e :: r) n), List.map_cons (l := e :: r), List.map_cons (l := stepD (e :: r) n), List.map_cons (l := e :: r), lenL_cons, lenL_cons, lenL_cons, lenL_cons]
   generalize lenL (List.map (fun x => x.2.1) (e :: r)) = A at *
   generalize lenL (List.map (fun x => x.2.2.flatten) (e :: r)) = B at *
   omega
  ·simp
theorem putD_nums (d : Det) (w nm : List UInt8) (n : List Int) : numsD (putD d w nm n) ≤ numsD d + n.length := by
 have := stepD_nums d.dems n
 unfold putD numsD
 split
 ·dsimp only; omega
 split
 ·dsimp only; rw [lenL_app, lenL_one]; omega
 split
 ·dsimp only; rw [lenL_app, lenL_one]; omega
 split
 ·dsimp only; omega
 split
 ·dsimp only; rw [List.map_append, lenL_app, List.map_cons, List.map_nil, lenL_one]; dsimp only; omega
 split
 ·dsimp only; rw [List.map_append, lenL_app, List.map_cons, List.map_nil, lenL_one]; dsimp only; omega
 split
 ·dsimp only; rw [lenL_app, lenL_one]; omega
 split
 ·dsimp only; rw [List.map_append, lenL_app, List.map_cons, List.map_nil, lenL_one, List.map_append, lenL_app, List.map_cons, List.map_nil, lenL_one, List.flatten_nil, List.length_nil]; dsimp only; omega
 ·dsimp only; omega
theorem nums_gone {ts : List Tk} : ∀ (k i : Nat) {l : List Int} {j : Nat}, numsT ts k i = .ok (l, j) → i + l.length ≤ j
 | 0, i, l, j, h => by
  rw [numsT] at h
  injection h with h
  injection h with h1 h2
  subst h1 h2
  exact Nat.le_refl _
 | k + 1, i, l, j, h => by
  rw [numsT] at h
  split at h
  ·cases h
  ·rename_i h1
   split at h
   ·cases h
   ·rename_i h2
    injection h with h
    injection h with e1 e
    have a := num_up h1
    have b := nums_gone k _ h2
    rw [← e1, ← e, List.length_cons]
    omega
theorem line_gone {ts : List Tk} {w : List UInt8} {i : Nat} {l : List Int} {j : Nat} (h : lineT ts w i = .ok (l, j)) : i + l.length ≤ j := by
 unfold lineT at h
 split at h
 ·cases h
 ·rename_i l1 j1 h1
  have b := nums_gone _ _ h1
  split at h
  ·split at h
   ·cases h
   ·rename_i h2
    injection h with h
    injection h with e h
    subst h
    have d := dims_up _ _ h2
    rw [← e, List.length_append]
    omega
  ·injection h with h
   injection h with e h
   subst e h
   exact b
theorem body_nums {ts : List Tk} (hE : Ends ts) {w : List UInt8} {s s' : Rd} (hi : s.i + 1 < ts.length) (h : bodyT ts w s = .ok s') (hm : numsD s.d ≤ s.i + 12) : numsD s'.d ≤ s'.i + 12 := by
 unfold bodyT at h
 split at h
 ·cases h
 ·rename_i nm i h1
  have hj : s.i + 1 ≤ i ∧ i < ts.length := by
   split at h1
   ·have := name_lt hE hi h1
    omega
   ·injection h1 with h1
    injection h1 with _ h1
    omega
  split at h
  ·cases h
  ·rename_i n j h2
   have a := line_lt hE hj.2 h2
   have a2 := line_gone h2
   split at h
   ·cases h
   ·rename_i j' h3
    have b := end_lt hE a.2 h3
    injection h with h
    subst h
    have := putD_nums s.d w nm n
    dsimp only
    omega
theorem lines_nums {ts : List Tk} (hE : Ends ts) : ∀ (f : Nat) (s s' : Rd), linesT ts f s = .ok s' → s.i < ts.length → manyD s.d ≤ s.i → numsD s.d ≤ s.i + 12 → numsD s'.d ≤ s'.i + 12 ∧ s'.i < ts.length
 | 0, s, s', h, hi, _, hs => by
  rw [linesT] at h
  injection h with h
  exact h ▸ ⟨hs, hi⟩
 | f + 1, s, s', h, hi, hm, hs => by
  rw [linesT] at h
  split at h
  ·injection h with h
   exact h ▸ ⟨hs, hi⟩
  ·split at h
   ·cases h
   ·rename_i s1 h1
    obtain ⟨u1, u2, u3⟩ := other_up hE hi h1 hm
    refine lines_nums hE f s1 s' h u2 u3 ?_
    unfold otherT at h1
    split at h1
    ·rename_i hw
     have hk : (tk ts s.i).kind = 1 := by
      unfold wordOk at hw
      simp only [Bool.and_eq_true, decide_eq_true_eq] at hw
      exact hw.1.1.1.1
     exact body_nums hE (hE.more s.i hi (by rw [hk]; decide)) h1 hs
    ·cases h1
theorem tokS_count {l : List UInt8} (h : (tokS l).2.2 = 0) : (tokS l).1.length ≤ l.length + 1 := by
 obtain ⟨_, _, _, q⟩ := tokS_ends h
 obtain ⟨r, e, he, _, _, hr, _⟩ := tokG_ends _ _ _ _ _ q
 rw [he, List.length_append]
 simp only [List.length_cons, List.length_nil]
 omega
theorem readS_nums (l : List UInt8) : numsD (readS l).1 ≤ l.length + 13 := by
 by_cases h0 : (tokS l).2.2 = 0
 ·obtain ⟨hE, hpos, -, -⟩ := tokS_ends h0
  have hc := tokS_count h0
  cases hr : readT (tokS l).1 with
  | error j => rw [readS_err h0 hr]; show 12 ≤ _; omega
  | ok d =>
   rw [readS_ok h0 hr]
   generalize (tokS l).1 = ts at *
   have hi0 := (skip_lt hE ts.length 0 hpos).2
   by_cases hy : (tk ts (skipT ts ts.length 0)).kind = 1 ∧ (tk ts (skipT ts ts.length 0)).text = wMember
   ·rw [readT_yes hy] at hr
    have hi1 := hE.more _ hi0 (by rw [hy.1]; decide)
    cases hb : bodyT ts wMember ⟨skipT ts ts.length 0, det0, false⟩ with
    | error e => rw [hb] at hr; cases hr
    | ok s =>
     rw [hb] at hr
     have hs := body_nums hE (s := ⟨skipT ts ts.length 0, det0, false⟩) hi1 hb (by show 12 ≤ _ + 12; omega)
     have hu := body_up hE (s := ⟨skipT ts ts.length 0, det0, false⟩) hi1 hb (Nat.zero_le _)
     have hr : linesR (linesT ts ts.length s) = .ok d := hr
     cases hl : linesT ts ts.length s with
     | error e => rw [hl] at hr; cases hr
     | ok s' =>
      rw [hl] at hr
      have := lines_nums hE _ _ _ hl hu.2.1 hu.2.2 hs
      have hr : (if s'.ruled then Except.ok s'.d else .error s'.i) = .ok d := hr
      split at hr
      ·injection hr with hr
       subst hr
       show numsD s'.d ≤ _
       omega
      ·cases hr
   ·rw [readT_no hy] at hr
    cases hr
 ·rw [readS_of_tok h0]
  show 12 ≤ _
  omega
theorem flat_sum {α : Type} {f : α → List UInt8} {g : α → Nat} {c : Nat} : ∀ (l : List α), (∀ x ∈ l, (f x).length ≤ c * g x) → (l.flatMap f).length ≤ c * (l.map g).sum
 | [], _ => by simp
 | a :: l, h => by
  have h1 := h a (by simp)
  have h2 := flat_sum l fun x hx => h x (by simp [hx])
  rw [List.flatMap_cons, List.length_append, List.map_cons, List.sum_cons, Nat.mul_add]
  omega
theorem textD_nums {d : Det} (hs : d.sh) (h : WrD d) : (textD d).length ≤ 32 * numsD d := by
 have h1 := lnB_len (wMember ++ 32 :: d.name) h.mem
 have h2 := flat_sum (c := 32) (g := List.length) d.boxes (f := lnB wBox) fun n hn => by have := lnB_len wBox (h.boxes n hn); have := hs.boxes n hn; have : wBox.length = 3 := rfl; omega
 have h3 := flat_sum (c := 32) (g := List.length) d.holes (f := lnB wHole) fun n hn => by have := lnB_len wHole (h.holes n hn); have := hs.holes n hn; have : wHole.length = 4 := rfl; omega
 have h4 := lnB_len wRule h.rule
 have h5 := flat_sum (c := 32) (g := fun b => b.2.length) d.bars (f := fun b => lnB (wBar ++ 32 :: b.1) b.2) fun b hb => by
  obtain ⟨k1, k2, k3, k4⟩ := h.bars b hb
  have := lnB_len (wBar ++ 32 :: b.1) k4
  have := name_len k1
  rw [List.length_append, List.length_cons] at *
  have : wBar.length = 3 := rfl
  omega
 have h6 := flat_sum (c := 32) (g := fun b => b.2.length) d.runs (f := fun b => lnB (wRun ++ 32 :: b.1) b.2) fun b hb => by
  obtain ⟨k1, k2⟩ := h.runs b hb
  have := lnB_len (wRun ++ 32 :: b.1) k2
  have := name_len k1
  have := hs.runs b hb
  rw [List.length_append, List.length_cons] at *
  have : wRun.length = 3 := rfl
  omega
 have h7 := flat_sum (c := 32) (g := List.length) d.laps (f := lnB wLap) fun n hn => by have := lnB_len wLap (h.laps n hn); have := hs.laps n hn; have : wLap.length = 3 := rfl; omega
 have h8 := flat_sum (c := 32) (g := fun x => x.2.1.length + x.2.2.flatten.length) d.dems (f := fun x => lnB (wDemand ++ 32 :: x.1) x.2.1 ++ x.2.2.flatMap (lnB wStep)) fun x hx => by
  obtain ⟨k1, k2, k3, k4⟩ := h.dems x hx
  obtain ⟨s1, s2⟩ := hs.dems x hx
  have a1 := lnB_len (wDemand ++ 32 :: x.1) k2
  have a2 := flat_sum (c := 32) (g := List.length) x.2.2 (f := lnB wStep) fun n hn => by have := lnB_len wStep (k4 n hn); have := s2 n hn; have : wStep.length = 4 := rfl; omega
  have a3 := name_len k1
  have : wDemand.length = 6 := rfl
  rw [List.length_append, List.length_cons] at a1
  rw [List.length_append, List.length_flatten]
  omega
 have e1 := hs.mem
 have e2 := hs.rule
 have e3 := name_len h.nm
 have f1 : wMember.length = 6 := rfl
 have f2 : wRule.length = 4 := rfl
 have s8 : (d.dems.map fun x => x.2.1.length + x.2.2.flatten.length).sum = lenL (d.dems.map fun x => x.2.1) + lenL (d.dems.map fun x => x.2.2.flatten) := by
  unfold lenL
  generalize d.dems = l
  induction l with
  | nil => rfl
  | cons a l ih => simp only [List.map_cons, List.sum_cons] at ih ⊢; omega
 have s5 : (d.bars.map fun b => b.2.length).sum = lenL (d.bars.map fun b => b.2) := by unfold lenL; rw [List.map_map]; rfl
 have s6 : (d.runs.map fun b => b.2.length).sum = lenL (d.runs.map fun b => b.2) := by unfold lenL; rw [List.map_map]; rfl
 rw [s8] at h8
 rw [s5] at h5
 rw [s6] at h6
 rw [List.length_append, List.length_cons] at h1
 have g2 : (d.boxes.map List.length).sum = lenL d.boxes := rfl
 have g3 : (d.holes.map List.length).sum = lenL d.holes := rfl
 have g7 : (d.laps.map List.length).sum = lenL d.laps := rfl
 rw [g2] at h2
 rw [g3] at h3
 rw [g7] at h7
 unfold textD numsD
 simp only [List.length_append]
 omega
theorem sh_wf {d : Det} (hs : d.sh) (h : WrD d) : d.wf := ⟨hs.mem, hs.boxes, hs.holes, hs.rule, fun b hb => (h.bars b hb).2.1, hs.runs, hs.laps, hs.dems⟩
theorem srcS_good {l : List UInt8} (h : (srcS l).2.2 = 0) : srcS l = ((readS l).1, (0, 0), 0) ∧ (readS l).2.2 = 0 ∧ wrD (readS l).1 = true := by
 unfold srcS at h ⊢
 by_cases h0 : (readS l).2.2 = 0
 ·rw [if_neg (by rw [h0]; simp)] at h ⊢
  by_cases hw : wrD (readS l).1 = true
  ·rw [if_pos hw] at h ⊢
   refine ⟨?_, h0, hw⟩
   rw [← readS_pos l h0]
   rw [← h0]
  ·rw [if_neg hw] at h
   exact absurd h (by decide)
 ·rw [if_pos h0] at h
  exact absurd h h0
theorem fmt_short {l : List UInt8} (hl : l.length ≤ 3000) : fmtS l = if (srcS l).2.2 ≠ 0 then ([], (srcS l).2.1, (srcS l).2.2) else (textD (srcS l).1, (0, 0), 0) := by
 unfold fmtS
 by_cases h : (srcS l).2.2 = 0
 ·obtain ⟨e, h0, hw⟩ := srcS_good h
  rw [if_neg (by rw [h]; simp), if_neg (by rw [h]; simp), e]
  have h1 := readS_nums l
  have h2 := textD_nums (readS_sh l) ((wrD_iff _).1 hw)
  unfold textR
  rw [if_pos hw, if_neg (by dsimp only; omega)]
 ·rw [if_pos h, if_pos h]
theorem fmt_again {l : List UInt8} (hl : l.length ≤ 3000) (h : (srcS l).2.2 = 0) : fmtS (textD (srcS l).1) = (textD (srcS l).1, (0, 0), 0) ∧ (textD (srcS l).1).length ≤ 262144 ∧ wrD (srcS l).1 = true := by
 obtain ⟨e, h0, hw⟩ := srcS_good h
 have h1 := readS_nums l
 have hW := (wrD_iff _).1 hw
 have h2 := textD_nums (readS_sh l) hW
 have h3 : (textD (readS l).1).length ≤ 262144 := by omega
 have h4 := (read_text (sh_wf (readS_sh l) hW) hw h3).2
 rw [e]
 refine ⟨?_, h3, hw⟩
 unfold fmtS
 dsimp only
 rw [h4]
 dsimp only
 rw [if_neg (by simp)]
 unfold textR
 rw [if_pos hw, if_neg (by omega)]
end Go.Proofs.YtccakklnbhcbdaaGreatDoor
