/- Plain: the lines of a detail's text; without its last line something is missing. -/
import Derived.Test.YtccakklnbhcbdaaGreatDoorMTxt
import Derived.Test.YtccakklnbhcbdaaGreatDoorQk
set_option linter.unusedVariables false
namespace Go.Proofs.YtccakklnbhcbdaaGreatDoor

open Go.Lib (decDigits itoa)
theorem wf_sh {d : Det} (hs : d.sh) (h : WrD d) : d.wf := ⟨hs.mem, hs.boxes, hs.holes, hs.rule, fun b hb => (h.bars b hb).2.1, hs.runs, hs.laps, hs.dems⟩
theorem noB_name {t : List UInt8} (h : nameB t = true) : noB 10 t := by
  unfold nameB at h
  simp only [Bool.and_eq_true, Bool.not_eq_true', decide_eq_true_eq] at h
  obtain ⟨⟨⟨_, _⟩, _⟩, h4⟩ := h
  have e0 : t.takeWhile isWrd = t := (List.takeWhile_prefix isWrd).eq_of_length h4
  have hall := List.all_takeWhile (p := isWrd) (l := t)
  rw [e0] at hall
  intro b hb e
  have := List.all_eq_true.1 hall b hb
  rw [e] at this
  exact absurd this (by decide)
theorem noB_dec (n : Nat) : noB 10 (decDigits n) := by
  intro b hb e
  have := List.all_eq_true.1 (dec_dig n).1 b hb
  rw [e] at this
  exact absurd this (by decide)
theorem noB_itoa (n : Int) : noB 10 (itoa n) := by
  unfold itoa
  split
  · rw [noB_cons]
    exact ⟨by decide, noB_dec _⟩
  · exact noB_dec _
theorem noB_nums : ∀ l : List Int, noB 10 (l.flatMap fun n => 32 :: itoa n)
  | [] => noB_nil _
  | n :: l => by
    rw [List.flatMap_cons, noB_app, noB_cons]
    exact ⟨⟨by decide, noB_itoa n⟩, noB_nums l⟩
/-- A line without its end. -/
def bodB (x : Ln) : List UInt8 := (if namedW x.w then x.w ++ 32 :: x.nm else x.w) ++ x.n.flatMap fun n => 32 :: itoa n
theorem lnT_body (x : Ln) : lnT x = bodB x ++ [10] := rfl
theorem bodB_no {x : Ln} (hx : x.good) : noB 10 (bodB x) := by
  unfold bodB
  rw [noB_app]
  refine ⟨?_, noB_nums _⟩
  split
  · rename_i h
    rw [noB_app, noB_cons]
    exact ⟨noB_name (least_name hx.least), by decide, noB_name (hx.nm h)⟩
  · exact noB_name (least_name hx.least)
theorem lines_count : ∀ l : List Ln, (∀ x ∈ l, x.good) → (l.flatMap lnT).count 10 = l.length
  | [], _ => rfl
  | x :: l, h => by
    have h0 : (bodB x).count 10 = 0 := List.count_eq_zero.2 fun hm => bodB_no (h x (by simp)) 10 hm rfl
    rw [List.flatMap_cons, List.count_append, lines_count l (fun y hy => h y (by simp [hy])), lnT_body, List.count_append, h0, List.length_cons]
    simp
    omega
theorem linesD_len (d : Det) : (memL d :: linesD d).length = 2 + manyD d := by
  have key : ∀ l : List (List UInt8 × List Int × List (List Int)), (l.flatMap demL).length = l.length + (l.map fun x => x.2.2.length).sum := by
    intro l
    induction l with
    | nil => rfl
    | cons a l ih =>
      rw [List.flatMap_cons, List.length_append, ih]
      simp only [demL, List.length_cons, List.length_map, List.map_cons, List.sum_cons]
      omega
  unfold linesD manyD
  simp only [List.length_cons, List.length_append, List.length_map, key]
  omega
/-! ### the last line -/
def setD (d : Det) (br rn : List (List UInt8 × List Int)) (lp : List (List Int)) (dm : List (List UInt8 × List Int × List (List Int))) : Det := { d with bars := br, runs := rn, laps := lp, dems := dm }
/-- The lines ahead of the last one, and the last one. -/
theorem last_line (d : Det) (hs : d.sh) (hw : WrD d) :
    (d.bars = [] ∧ d.runs = [] ∧ d.laps = [] ∧ d.dems = []) ∨ ∃ d' x, linesD d = linesD d' ++ [x] ∧ memL d = memL d' ∧ d'.sh ∧ WrD d' ∧ d' ≠ d := by
  obtain ⟨nm, me, bx, hl, ru, br, rn, lp, dm⟩ := d
  rcases List.eq_nil_or_concat dm with rfl | ⟨dm', x, rfl⟩
  · rcases List.eq_nil_or_concat lp with rfl | ⟨lp', x, rfl⟩
    · rcases List.eq_nil_or_concat rn with rfl | ⟨rn', x, rfl⟩
      · rcases List.eq_nil_or_concat br with rfl | ⟨br', x, rfl⟩
        · exact .inl ⟨rfl, rfl, rfl, rfl⟩
        · right
          rw [List.concat_eq_append] at hs hw ⊢
          refine ⟨⟨nm, me, bx, hl, ru, br', [], [], []⟩, ⟨wBar, x.1, x.2⟩, by simp [linesD], rfl, { hs with bars := fun b hb => hs.bars b (List.mem_append_left _ hb), bnm := fun b hb => hs.bnm b (List.mem_append_left _ hb) }, { hw with nr := by have := hw.nr; simp at this ⊢; omega, bars := fun b hb => hw.bars b (List.mem_append_left _ hb) }, fun e => by simp at e⟩
      · right
        rw [List.concat_eq_append] at hs hw ⊢
        refine ⟨⟨nm, me, bx, hl, ru, br, rn', [], []⟩, ⟨wRun, x.1, x.2⟩, by simp [linesD], rfl, { hs with runs := fun b hb => hs.runs b (List.mem_append_left _ hb), rnm := fun b hb => hs.rnm b (List.mem_append_left _ hb) }, { hw with nu := by have := hw.nu; simp at this ⊢; omega, runs := fun b hb => hw.runs b (List.mem_append_left _ hb) }, fun e => by simp at e⟩
    · right
      rw [List.concat_eq_append] at hs hw ⊢
      refine ⟨⟨nm, me, bx, hl, ru, br, rn, lp', []⟩, ⟨wLap, [], x⟩, by simp [linesD], rfl, { hs with laps := fun b hb => hs.laps b (List.mem_append_left _ hb) }, { hw with nl := by have := hw.nl; simp at this ⊢; omega, laps := fun b hb => hw.laps b (List.mem_append_left _ hb) }, fun e => by simp at e⟩
  · right
    rw [List.concat_eq_append] at hs hw ⊢
    obtain ⟨m, z, st⟩ := x
    rcases List.eq_nil_or_concat st with rfl | ⟨st', n, rfl⟩
    · refine ⟨⟨nm, me, bx, hl, ru, br, rn, lp, dm'⟩, ⟨wDemand, m, z⟩, by simp [linesD, demL], rfl, { hs with dems := fun b hb => hs.dems b (List.mem_append_left _ hb), dnm := fun b hb => hs.dnm b (List.mem_append_left _ hb) }, { hw with nd := by have := hw.nd; simp at this ⊢; omega, dems := fun b hb => hw.dems b (List.mem_append_left _ hb) }, fun e => by simp at e⟩
    · rw [List.concat_eq_append] at hs hw ⊢
      have hsx := hs.dems (m, z, st' ++ [n]) (by simp)
      have hwx := hw.dems (m, z, st' ++ [n]) (by simp)
      have hnx := hs.dnm (m, z, st' ++ [n]) (by simp)
      have key : ∀ {P : List UInt8 × List Int × List (List Int) → Prop}, (∀ x ∈ dm' ++ [(m, z, st' ++ [n])], P x) → P (m, z, st') → ∀ x ∈ dm' ++ [(m, z, st')], P x := fun h1 h2 x hx => by
        rcases List.mem_append.1 hx with q | q
        · exact h1 x (List.mem_append_left _ q)
        · rw [List.mem_singleton.1 q]; exact h2
      refine ⟨⟨nm, me, bx, hl, ru, br, rn, lp, dm' ++ [(m, z, st')]⟩, ⟨wStep, [], n⟩, by simp [linesD, demL], rfl, { hs with dems := key hs.dems ⟨hsx.1, fun y hy => hsx.2 y (List.mem_append_left _ hy)⟩, dnm := key hs.dnm hnx }, { hw with nd := by have := hw.nd; simp at this ⊢; omega, dems := key hw.dems ⟨hwx.1, hwx.2.1, by have := hwx.2.2.1; simp at this ⊢; omega, fun y hy => hwx.2.2.2 y (List.mem_append_left _ hy)⟩ }, fun e => by simp at e⟩
/-- A source without a rule. -/
theorem readT_unruled {ts : List Tk} {x : Ln} {l : List Ln} (hx : x.good) (hm : x.w = wMember) (ho : okLs l (putL det0 x, false)) (hr : (runLs l (putL det0 x, false)).2 = false) (h : ktFrom ts 0 = lnK x ++ (l.flatMap lnK ++ [(5, [])])) : ∃ j, readT ts = .error j := by
  obtain ⟨k, y, r, hrr, hk⟩ := rest_head l
  have h0 := h
  unfold lnK at h0
  rw [List.cons_append] at h0
  obtain ⟨k1, x1, _, hl⟩ := kt_head h0
  have hs : skipT ts ts.length 0 = 0 := by
    obtain ⟨f, hf⟩ : ∃ f, ts.length = f + 1 := ⟨ts.length - 1, by omega⟩
    rw [hf]
    unfold skipT
    rw [if_neg (by rw [k1]; decide)]
  rw [hrr] at h
  obtain ⟨j, b1, b2⟩ := bodyT_of (s := ⟨0, det0, false⟩) hx h hk
  rw [← hrr] at b2
  have hrl : decide (x.w = wRule) = false := by rw [hm]; decide
  rw [hrl] at b1
  have hfl : l.length < ts.length := by
    have h3 := congrArg List.length b2
    unfold ktFrom at h3
    rw [List.length_map, List.length_drop, List.length_append] at h3
    have h4 := lnK_len l
    simp only [List.length_cons, List.length_nil] at h3
    omega
  obtain ⟨j', h3, _⟩ := linesT_of l ts.length ⟨j, putL det0 x, false⟩ ho hfl b2
  refine ⟨j', ?_⟩
  unfold readT
  simp only [hs]
  rw [if_pos ⟨k1, x1.trans hm⟩, ← hm]
  have b1' : bodyT ts x.w ⟨0, det0, false⟩ = .ok ⟨j, putL det0 x, false⟩ := b1
  simp only [b1', h3, hr]
  rfl
/-- A detail without lines behind the rule; its text without the rule's line. -/
def noRule (d : Det) : List UInt8 := (memL d :: (d.boxes.map (fun n => (⟨wBox, [], n⟩ : Ln)) ++ d.holes.map (fun n => (⟨wHole, [], n⟩ : Ln)))).flatMap lnT
theorem bare_text {d : Det} (h1 : d.bars = []) (h2 : d.runs = []) (h3 : d.laps = []) (h4 : d.dems = []) : textD d = noRule d ++ lnB wRule d.rule := by
  rw [textD_lines]
  unfold linesD noRule
  rw [h1, h2, h3, h4]
  simp only [List.map_nil, List.flatMap_nil, List.append_nil, List.flatMap_cons, List.flatMap_append, List.append_assoc, lnT_rule]
theorem bare_read {d : Det} (hs : d.sh) (hw : WrD d) (hl : (noRule d).length ≤ 262144) : (srcS (noRule d)).1 = det0 ∧ (srcS (noRule d)).2.2 = 7 := by
  have gm : (memL d).good := good_plain (by decide) (by decide) hs.mem hw.mem (fun _ => hw.nm)
  have gp : ∀ x ∈ d.boxes.map (fun n => (⟨wBox, [], n⟩ : Ln)) ++ d.holes.map (fun n => (⟨wHole, [], n⟩ : Ln)), plainL x := by
    intro x hx
    rcases List.mem_append.1 hx with q | q
    · obtain ⟨n, hn, rfl⟩ := List.mem_map.1 q
      exact plain_box (hs.boxes n hn) (hw.boxes n hn)
    · obtain ⟨n, hn, rfl⟩ := List.mem_map.1 q
      exact plain_hole (hs.holes n hn) (hw.holes n hn)
  have ho := okLs_plain _ (putL det0 (memL d), false) gp
  have hrun : (runLs (d.boxes.map (fun n => (⟨wBox, [], n⟩ : Ln)) ++ d.holes.map (fun n => (⟨wHole, [], n⟩ : Ln))) (putL det0 (memL d), false)).2 = false := by rw [runLs_app, run_boxes, run_holes]
  obtain ⟨ts, t1, t2⟩ := lines_give (memL d :: (d.boxes.map (fun n => (⟨wBox, [], n⟩ : Ln)) ++ d.holes.map (fun n => (⟨wHole, [], n⟩ : Ln)))) (by
    intro x hx
    rcases List.mem_cons.1 hx with rfl | q
    · exact gm
    · exact (gp x q).1) (noRule d).length 1 1 (Nat.le_refl _)
  have hts : tokS (noRule d) = (ts, (0, 0), 0) := tokS_of hl t1
  obtain ⟨j, hj⟩ := readT_unruled (ts := ts) gm rfl ho hrun (by
    unfold ktFrom
    rw [List.drop_zero, t2, List.flatMap_cons, List.append_assoc])
  have h0 : (tokS (noRule d)).2.2 = 0 := by rw [hts]
  have hR := readS_err h0 (by rw [hts]; exact hj)
  unfold srcS
  rw [hR]
  simp
/-- The text of a detail is T1 and its last line; what T1 gives. -/
theorem back_cut {d : Det} (hs : d.sh) (hw : WrD d) (hl : (textD d).length ≤ 262144) : ∃ (T1 b : List UInt8), textD d = T1 ++ b ++ [10] ∧ noB 10 b ∧ (∃ T0, T1 = T0 ++ [10]) ∧ (((srcS T1).1 = det0 ∧ (srcS T1).2.2 = 7 ∧ ∃ r, b = 114 :: 117 :: 108 :: 101 :: 32 :: r) ∨ ∃ d', srcS T1 = (d', (0, 0), 0) ∧ d' ≠ d ∧ d'.sh) := by
  obtain ⟨g1, g2, g3⟩ := linesD_ok (wf_sh hs hw) ((wrD_iff d).2 hw)
  rcases last_line d hs hw with ⟨h1, h2, h3, h4⟩ | ⟨d', x, e1, e2, hs', hw', hne⟩
  · have ht := bare_text h1 h2 h3 h4
    have hrg : Ln.good ⟨wRule, [], d.rule⟩ := good_plain (by decide) (by decide) hs.rule hw.rule (fun q => absurd q (by decide))
    refine ⟨noRule d, bodB ⟨wRule, [], d.rule⟩, by rw [ht, List.append_assoc, ← lnT_body]; rfl, bodB_no hrg, ?_, .inl ?_⟩
    · unfold noRule
      rcases List.eq_nil_or_concat (d.boxes.map (fun n => (⟨wBox, [], n⟩ : Ln)) ++ d.holes.map (fun n => (⟨wHole, [], n⟩ : Ln))) with q | ⟨l, x, q⟩
      · rw [q]
        exact ⟨bodB (memL d), by simp [lnT_body]⟩
      · rw [q, List.concat_eq_append]
        exact ⟨(memL d :: l).flatMap lnT ++ bodB x, by simp [lnT_body]⟩
    · obtain ⟨q1, q2⟩ := bare_read hs hw (by rw [ht, List.length_append] at hl; omega)
      refine ⟨q1, q2, ?_⟩
      have hr9 := hs.rule
      cases hr : d.rule with
      | nil => rw [hr] at hr9; cases hr9
      | cons n r => exact ⟨itoa n ++ r.flatMap fun n => 32 :: itoa n, rfl⟩
  · have et : textD d = textD d' ++ lnT x := by
      rw [textD_lines, textD_lines, e1, e2, List.flatMap_cons, List.flatMap_cons, List.flatMap_append, List.flatMap_singleton, List.append_assoc]
    have hx : x.good := okLs_good _ _ g2 x (by rw [e1]; simp)
    refine ⟨textD d', bodB x, by rw [et, List.append_assoc, ← lnT_body], bodB_no hx, ?_, .inr ⟨d', ?_, hne, hs'⟩⟩
    · rw [textD_lines]
      rcases List.eq_nil_or_concat (linesD d') with q | ⟨l, y, q⟩
      · rw [q]
        exact ⟨bodB (memL d'), by simp [lnT_body]⟩
      · rw [q, List.concat_eq_append]
        exact ⟨(memL d' :: l).flatMap lnT ++ bodB y, by simp [lnT_body]⟩
    · exact (read_text (wf_sh hs' hw') ((wrD_iff d').2 hw') (by rw [et, List.length_append] at hl; omega)).2
theorem back_count {d : Det} (hs : d.sh) (hw : WrD d) : (textD d).count 10 = 2 + manyD d := by
  obtain ⟨g1, g2, g3⟩ := linesD_ok (wf_sh hs hw) ((wrD_iff d).2 hw)
  rw [textD_lines, lines_count, linesD_len]
  intro x hx
  rcases List.mem_cons.1 hx with rfl | q
  · exact g1
  · exact okLs_good _ _ g2 x q

theorem textD_size {d : Det} (hs : d.sh) (h : WrD d) : (textD d).length ≤ 300 * (manyD d + 2) := by
  have h1 := lnB_len (wMember ++ 32 :: d.name) h.mem
  have h2 := flat_le (c := 300) d.boxes (f := lnB wBox) fun n hn => by have := lnB_len wBox (h.boxes n hn); have := hs.boxes n hn; have : wBox.length = 3 := rfl; omega
  have h3 := flat_le (c := 300) d.holes (f := lnB wHole) fun n hn => by have := lnB_len wHole (h.holes n hn); have := hs.holes n hn; have : wHole.length = 4 := rfl; omega
  have h4 := lnB_len wRule h.rule
  have h5 := flat_le (c := 300) d.bars (f := fun b => lnB (wBar ++ 32 :: b.1) b.2) fun b hb => by
    obtain ⟨k1, k2, k3, k4⟩ := h.bars b hb
    have := lnB_len (wBar ++ 32 :: b.1) k4
    have := name_len k1
    rw [List.length_append, List.length_cons] at *
    have : wBar.length = 3 := rfl
    omega
  have h6 := flat_le (c := 300) d.runs (f := fun b => lnB (wRun ++ 32 :: b.1) b.2) fun b hb => by
    obtain ⟨k1, k2⟩ := h.runs b hb
    have := lnB_len (wRun ++ 32 :: b.1) k2
    have := name_len k1
    have := hs.runs b hb
    rw [List.length_append, List.length_cons] at *
    have : wRun.length = 3 := rfl
    omega
  have h7 := flat_le (c := 300) d.laps (f := lnB wLap) fun n hn => by have := lnB_len wLap (h.laps n hn); have := hs.laps n hn; have : wLap.length = 3 := rfl; omega
  have h8 : (d.dems.flatMap fun x => lnB (wDemand ++ 32 :: x.1) x.2.1 ++ x.2.2.flatMap (lnB wStep)).length ≤ 300 * (d.dems.length + (d.dems.map fun x => x.2.2.length).sum) := by
    have key : ∀ l : List (List UInt8 × List Int × List (List Int)), (∀ x ∈ l, x ∈ d.dems) → (l.flatMap fun x => lnB (wDemand ++ 32 :: x.1) x.2.1 ++ x.2.2.flatMap (lnB wStep)).length ≤ 300 * (l.length + (l.map fun x => x.2.2.length).sum) := by
      intro l
      induction l with
      | nil => intro _; exact Nat.zero_le _
      | cons x l ih =>
        intro hl
        have hx := hl x (by simp)
        have ih := ih fun y hy => hl y (by simp [hy])
        obtain ⟨k1, k2, k3, k4⟩ := h.dems x hx
        obtain ⟨s1, s2⟩ := hs.dems x hx
        have a1 := lnB_len (wDemand ++ 32 :: x.1) k2
        have a2 := flat_le (c := 300) x.2.2 (f := lnB wStep) fun n hn => by have := lnB_len wStep (k4 n hn); have := s2 n hn; have : wStep.length = 4 := rfl; omega
        have a3 := name_len k1
        have : wDemand.length = 6 := rfl
        rw [List.length_append, List.length_cons] at a1
        rw [List.flatMap_cons, List.length_append, List.length_append, List.map_cons, List.sum_cons, List.length_cons]
        omega
    exact key d.dems fun x hx => hx
  have e1 := hs.mem
  have e2 := hs.rule
  have e3 := name_len h.nm
  have f1 : wMember.length = 6 := rfl
  have f2 : wRule.length = 4 := rfl
  rw [List.length_append, List.length_cons] at h1
  unfold textD manyD
  simp only [List.length_append]
  omega

end Go.Proofs.YtccakklnbhcbdaaGreatDoor
