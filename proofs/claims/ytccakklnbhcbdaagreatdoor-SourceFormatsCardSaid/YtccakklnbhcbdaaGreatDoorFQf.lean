import Derived.Test.YtccakklnbhcbdaaGreatDoorFQd
import Derived.Test.YtccakklnbhcbdaaGreatDoorFQc
set_option linter.unusedVariables false
namespace Go.Proofs.YtccakklnbhcbdaaGreatDoor
open Go.Lib (decDigits itoa)
abbrev KT := Int × List UInt8
def kt (t : Tk) : KT := (t.kind, t.text)
def ktFrom (ts : List Tk) (i : Nat) : List KT := (ts.drop i).map kt
theorem kt_head {ts : List Tk} {i : Nat} {k : Int} {x : List UInt8} {r : List KT} (h : ktFrom ts i = (k, x) :: r) : (tk ts i).kind = k ∧ (tk ts i).text = x ∧ ktFrom ts (i + 1) = r ∧ i < ts.length := by
 unfold ktFrom at h ⊢
 have hlt : i < ts.length := by
  rcases Nat.lt_or_ge i ts.length with q | q
  ·exact q
  ·rw [List.drop_eq_nil_of_le q] at h
   cases h
 rw [List.drop_eq_getElem_cons hlt, List.map_cons] at h
 injection h with h1 h2
 have e : tk ts i = ts[i] := by simp [tk, List.getD, hlt]
 rw [e]
 exact ⟨congrArg Prod.fst h1, congrArg Prod.snd h1, h2, hlt⟩
def numK (n : Int) : List KT := if n < 0 then [(3, [45]), (2, decDigits n.natAbs)] else [(2, decDigits n.natAbs)]
theorem dec15 {n : Nat} (h : n ≤ 999999999999999) : intO (decDigits n) = some n := intO_iff.2 ⟨dec_len19 14 n (by omega), rfl⟩
theorem numT_of {ts : List Tk} {i : Nat} {n : Int} {r : List KT} (hn : -999999999999999 ≤ n ∧ n ≤ 999999999999999) (h : ktFrom ts i = numK n ++ r) : ∃ j, numT ts i = .ok (n, j) ∧ ktFrom ts j = r := by
 unfold numK at h
 by_cases hs : n < 0
 ·rw [if_pos hs] at h
  obtain ⟨k1, x1, h1, _⟩ := kt_head h
  obtain ⟨k2, x2, h2, _⟩ := kt_head h1
  have hm : minusT (tk ts i) = true := by unfold minusT; rw [k1, x1]; rfl
  have hd : digT ts i = i + 1 := by unfold digT; rw [if_pos hm]
  have hw : wholeT (tk ts (i + 1)) = some n.natAbs := by unfold wholeT; rw [if_pos k2, x2]; exact dec15 (by omega)
  refine ⟨i + 2, ?_, h2⟩
  unfold numT
  rw [hd, hw]
  simp only [hm, if_true]
  rw [show -(n.natAbs : Int) = n by omega]
 ·rw [if_neg hs] at h
  obtain ⟨k1, x1, h1, _⟩ := kt_head h
  have hm : minusT (tk ts i) = false := by unfold minusT; rw [k1]; rfl
  have hd : digT ts i = i := by unfold digT; rw [if_neg (by rw [hm]; decide)]
  have hw : wholeT (tk ts i) = some n.natAbs := by unfold wholeT; rw [if_pos k1, x1]; exact dec15 (by omega)
  refine ⟨i + 1, ?_, h1⟩
  unfold numT
  rw [hd, hw]
  simp only [hm, Bool.false_eq_true, if_false]
  rw [show (n.natAbs : Int) = n by omega]
theorem fit_all {l : List Int} (h : fitB l = true) : ∀ n ∈ l, -999999999999999 ≤ n ∧ n ≤ 999999999999999 := fun n hn => by simpa using List.all_eq_true.1 h n hn
theorem numsT_of {ts : List Tk} {r : List KT} : ∀ (l : List Int) (i : Nat), (∀ n ∈ l, -999999999999999 ≤ n ∧ n ≤ 999999999999999) → ktFrom ts i = l.flatMap numK ++ r → ∃ j, numsT ts l.length i = .ok (l, j) ∧ ktFrom ts j = r
 | [], i, _, h => ⟨i, rfl, h⟩
 | n :: l, i, hf, h => by
  rw [List.flatMap_cons, List.append_assoc] at h
  obtain ⟨j, h1, h2⟩ := numT_of (hf n (by simp)) h
  obtain ⟨j', h3, h4⟩ := numsT_of l j (fun m hm => hf m (by simp [hm])) h2
  refine ⟨j', ?_, h4⟩
  rw [List.length_cons, numsT]
  simp only [h1, h3]
theorem num_not4 (n : Int) : ∃ k x r, numK n = (k, x) :: r ∧ k ≠ 4 ∧ k ≠ 5 := by
 unfold numK
 split
 ·exact ⟨_, _, _, rfl, by decide, by decide⟩
 ·exact ⟨_, _, _, rfl, by decide, by decide⟩
theorem dimsT_of {ts : List Tk} {r : List KT} : ∀ (l : List Int) (f i : Nat), l.length < f → (∀ n ∈ l, -999999999999999 ≤ n ∧ n ≤ 999999999999999) → ktFrom ts i = l.flatMap numK ++ (4, []) :: r → ∃ j, dimsT ts f i = .ok (l, j) ∧ ktFrom ts j = (4, []) :: r
 | [], f, i, hl, _, h => by
  obtain ⟨f, rfl⟩ : ∃ g, f = g + 1 := ⟨f - 1, by simp at hl; omega⟩
  obtain ⟨k1, _⟩ := kt_head h
  refine ⟨i, ?_, h⟩
  unfold dimsT
  rw [if_pos k1]
 | n :: l, f, i, hl, hf, h => by
  obtain ⟨f, rfl⟩ : ∃ g, f = g + 1 := ⟨f - 1, by simp at hl; omega⟩
  rw [List.flatMap_cons, List.append_assoc] at h
  obtain ⟨j, h1, h2⟩ := numT_of (hf n (by simp)) h
  obtain ⟨k, x, q, hq, hk, _⟩ := num_not4 n
  have hk4 : (tk ts i).kind ≠ 4 := by
   rw [hq] at h
   rw [(kt_head h).1]
   exact hk
  obtain ⟨j', h3, h4⟩ := dimsT_of l f j (by simp at hl; omega) (fun m hm => hf m (by simp [hm])) h2
  refine ⟨j', ?_, h4⟩
  unfold dimsT
  rw [if_neg hk4]
  simp only [h1, h3]
theorem endT_of {ts : List Tk} {i : Nat} {k : Int} {x : List UInt8} {r : List KT} (h : ktFrom ts i = (4, []) :: (k, x) :: r) (hk : k ≠ 4) : endT ts i = .ok (i + 1) ∧ ktFrom ts (i + 1) = (k, x) :: r := by
 obtain ⟨k1, _, h1, hl⟩ := kt_head h
 obtain ⟨k2, _, _, hl2⟩ := kt_head h1
 refine ⟨?_, h1⟩
 unfold endT
 rw [if_pos k1]
 obtain ⟨f, hf⟩ : ∃ f, ts.length = f + 2 := ⟨ts.length - 2, by omega⟩
 rw [hf]
 unfold skipT
 rw [if_pos k1]
 unfold skipT
 rw [if_neg (by rw [k2]; exact hk)]
structure Ln where
 w : List UInt8
 nm : List UInt8
 n : List Int
def lnK (x : Ln) : List KT := (1, x.w) :: ((if namedW x.w then [(1, x.nm)] else []) ++ (x.n.flatMap numK ++ [(4, [])]))
structure Ln.good (x : Ln) : Prop where
 least : 0 < leastW x.w
 len : if x.w = wBar then leastW x.w ≤ x.n.length else x.n.length = leastW x.w
 fit : ∀ n ∈ x.n, -999999999999999 ≤ n ∧ n ≤ 999999999999999
 nm : namedW x.w = true → nameB x.nm = true
theorem lineT_of {ts : List Tk} {i : Nat} {x : Ln} {r : List KT} (hx : x.good) (h : ktFrom ts i = x.n.flatMap numK ++ (4, []) :: r) : ∃ j, lineT ts x.w i = .ok (x.n, j) ∧ ktFrom ts j = (4, []) :: r := by
 have hl := hx.len
 by_cases hb : x.w = wBar
 ·rw [if_pos hb] at hl
  have e : x.n = x.n.take (leastW x.w) ++ x.n.drop (leastW x.w) := (List.take_append_drop _ _).symm
  rw [e, List.flatMap_append, List.append_assoc] at h
  obtain ⟨j, h1, h2⟩ := numsT_of _ i (fun n hn => hx.fit n (List.mem_of_mem_take hn)) h
  have hlen : (x.n.take (leastW x.w)).length = leastW x.w := by rw [List.length_take]; omega
  rw [hlen] at h1
  have hfu : (x.n.drop (leastW x.w)).length < ts.length := by
   have h3 := congrArg List.length h2
   unfold ktFrom at h3
   rw [List.length_map, List.length_drop, List.length_append] at h3
   have h4 : (x.n.drop (leastW x.w)).length ≤ ((x.n.drop (leastW x.w)).flatMap numK).length := by
    generalize x.n.drop (leastW x.w) = l
    induction l with
    | nil => simp
    | cons a l ih =>
     obtain ⟨k, y, q, hq, _⟩ := num_not4 a
     rw [List.flatMap_cons, List.length_append, hq]
     simp only [List.length_cons]
     omega
   simp only [List.length_cons] at h3
   omega
  obtain ⟨j', h3, h4⟩ := dimsT_of _ ts.length j hfu (fun n hn => hx.fit n (List.mem_of_mem_drop hn)) h2
  refine ⟨j', ?_, h4⟩
  unfold lineT
  simp only [h1, if_pos hb, h3]
  rw [← e]
 ·rw [if_neg hb] at hl
  obtain ⟨j, h1, h2⟩ := numsT_of x.n i hx.fit h
  refine ⟨j, ?_, h2⟩
  unfold lineT
  rw [← hl]
  simp only [h1, if_neg hb]
def putL (d : Det) (x : Ln) : Det := putD d x.w (if namedW x.w then x.nm else []) x.n
theorem bodyT_of {ts : List Tk} {s : Rd} {x : Ln} {k : Int} {y : List UInt8} {r : List KT} (hx : x.good) (h : ktFrom ts s.i = lnK x ++ (k, y) :: r) (hk : k ≠ 4) : ∃ j, bodyT ts x.w s = .ok ⟨j, putL s.d x, s.ruled || decide (x.w = wRule)⟩ ∧ ktFrom ts j = (k, y) :: r := by
 unfold lnK at h
 simp only [List.cons_append, List.append_assoc] at h
 obtain ⟨_, _, h1, _⟩ := kt_head h
 have key : ∃ i nm, (if namedW x.w then nameT ts (s.i + 1) else .ok ([], s.i + 1)) = .ok (nm, i) ∧ nm = (if namedW x.w then x.nm else []) ∧ ktFrom ts i = x.n.flatMap numK ++ (4, []) :: (k, y) :: r := by
  by_cases hn : namedW x.w = true
  ·rw [if_pos hn] at h1
   obtain ⟨k2, x2, h2, _⟩ := kt_head h1
   refine ⟨s.i + 2, x.nm, ?_, by rw [if_pos hn], by simpa using h2⟩
   rw [if_pos hn]
   unfold nameT
   rw [if_pos k2, x2]
  ·rw [if_neg hn] at h1
   exact ⟨s.i + 1, [], by rw [if_neg hn], by rw [if_neg hn], by simpa using h1⟩
 obtain ⟨i, nm, e1, e2, h2⟩ := key
 obtain ⟨j, h3, h4⟩ := lineT_of hx h2
 obtain ⟨h5, h6⟩ := endT_of h4 hk
 refine ⟨j + 1, ?_, h6⟩
 unfold bodyT
 simp only [e1, h3, h5]
 rw [e2]
 rfl
abbrev Sd := Det × Bool
def stepL (s : Sd) (x : Ln) : Sd := (putL s.1 x, s.2 || decide (x.w = wRule))
def runLs (l : List Ln) (s : Sd) : Sd := l.foldl stepL s
theorem runLs_app (l m : List Ln) (s : Sd) : runLs (l ++ m) s = runLs m (runLs l s) := List.foldl_append ..
theorem runLs_cons (x : Ln) (l : List Ln) (s : Sd) : runLs (x :: l) s = runLs l (stepL s x) := rfl
def okL (s : Sd) (x : Ln) : Prop := x.good ∧ x.w ≠ wMember ∧ (x.w = wRule → s.2 = false) ∧ (x.w = wStep → s.1.dems ≠ [])
def okLs : List Ln → Sd → Prop
 | [], _ => True
 | x :: l, s => okL s x ∧ okLs l (stepL s x)
theorem okLs_app : ∀ (l m : List Ln) (s : Sd), okLs (l ++ m) s ↔ okLs l s ∧ okLs m (runLs l s)
 | [], m, s => by simp [okLs, runLs]
 | x :: l, m, s => by
  have ih := okLs_app l m (stepL s x)
  show okL s x ∧ okLs (l ++ m) (stepL s x) ↔ (okL s x ∧ okLs l (stepL s x)) ∧ okLs m (runLs l (stepL s x))
  rw [ih, and_assoc]
theorem rest_head (l : List Ln) : ∃ k y r, l.flatMap lnK ++ [((5 : Int), ([] : List UInt8))] = (k, y) :: r ∧ k ≠ 4 := by
 cases l with
 | nil => exact ⟨5, [], [], rfl, by decide⟩
 | cons x l => exact ⟨1, x.w, _, rfl, by decide⟩
theorem linesT_of {ts : List Tk} : ∀ (l : List Ln) (f : Nat) (s : Rd), okLs l (s.d, s.ruled) → l.length < f → ktFrom ts s.i = l.flatMap lnK ++ [(5, [])] → ∃ j, linesT ts f s = .ok ⟨j, (runLs l (s.d, s.ruled)).1, (runLs l (s.d, s.ruled)).2⟩ ∧ ktFrom ts j = [(5, [])]
 | [], f, s, _, hf, h => by
  obtain ⟨f, rfl⟩ : ∃ g, f = g + 1 := ⟨f - 1, by simp at hf; omega⟩
  obtain ⟨k1, _⟩ := kt_head h
  refine ⟨s.i, ?_, h⟩
  unfold linesT
  rw [if_pos k1]
  rfl
 | x :: l, f, s, ho, hf, h => by
  obtain ⟨f, rfl⟩ : ∃ g, f = g + 1 := ⟨f - 1, by simp at hf; omega⟩
  obtain ⟨⟨o1, o2, o3, o4⟩, o5⟩ := ho
  obtain ⟨k, y, r, hr, hk⟩ := rest_head l
  rw [List.flatMap_cons, List.append_assoc, hr] at h
  have h0 := h
  unfold lnK at h0
  rw [List.cons_append] at h0
  obtain ⟨k1, x1, _, _⟩ := kt_head h0
  obtain ⟨j, b1, b2⟩ := bodyT_of (s := s) o1 h hk
  rw [← hr] at b2
  obtain ⟨j', h3, h4⟩ := linesT_of l f ⟨j, putL s.d x, s.ruled || decide (x.w = wRule)⟩ o5 (by simp at hf; omega) b2
  refine ⟨j', ?_, h4⟩
  have hw : wordOk (tk ts s.i) s = true := by
   unfold wordOk
   rw [k1, x1]
   simp only [Bool.and_eq_true, decide_eq_true_eq, Bool.not_eq_true', Bool.and_eq_false_iff, decide_eq_false_iff_not]
   refine ⟨⟨⟨⟨trivial, o1.least⟩, o2⟩, ?_⟩, ?_⟩
   ·by_cases q : x.w = wRule
    ·exact .inl (o3 q)
    ·exact .inr q
   ·by_cases q : x.w = wStep
    ·right
     have := o4 q
     cases hd : s.d.dems with
     | nil => exact absurd hd this
     | cons a b => rfl
    ·exact .inl q
  unfold linesT
  rw [if_neg (by rw [k1]; decide)]
  have e : otherT ts s = .ok ⟨j, putL s.d x, s.ruled || decide (x.w = wRule)⟩ := by
   unfold otherT
   rw [if_pos hw, x1]
   exact b1
  simp only [e]
  exact h3
theorem lnK_len : ∀ (l : List Ln), l.length ≤ (l.flatMap lnK).length
 | [] => by simp
 | a :: l => by
  have ih := lnK_len l
  rw [List.flatMap_cons, List.length_append]
  have : 1 ≤ (lnK a).length := by unfold lnK; simp
  simp only [List.length_cons]
  omega
theorem readT_of {ts : List Tk} {x : Ln} {l : List Ln} (hx : x.good) (hm : x.w = wMember) (ho : okLs l (putL det0 x, false)) (hr : (runLs l (putL det0 x, false)).2 = true) (h : ktFrom ts 0 = lnK x ++ (l.flatMap lnK ++ [(5, [])])) : readT ts = .ok (runLs l (putL det0 x, false)).1 := by
 obtain ⟨k, y, r, hrr, hk⟩ := rest_head l
 have h0 := h
 unfold lnK at h0
 rw [List.cons_append] at h0
 obtain ⟨k1, x1, _, hl⟩ := kt_head h0
 have hs : skipT ts ts.length 0 = 0 := by
  obtain ⟨f, hf⟩ : ∃ f, ts.length = f + 1 := ⟨ts.length - 1, by omega⟩
  rw [hf]
  unfold skipT
  rw [if_neg (by rw [k1]; decide)]
 rw [hrr] at h
 obtain ⟨j, b1, b2⟩ := bodyT_of (s := ⟨0, det0, false⟩) hx h hk
 rw [← hrr] at b2
 have hrl : decide (x.w = wRule) = false := by rw [hm]; decide
 rw [hrl] at b1
 have hfl : l.length < ts.length := by
  have h3 := congrArg List.length b2
  unfold ktFrom at h3
  rw [List.length_map, List.length_drop, List.length_append] at h3
  have h4 := lnK_len l
  simp only [List.length_cons, List.length_nil] at h3
  omega
 obtain ⟨j', h3, _⟩ := linesT_of l ts.length ⟨j, putL det0 x, false⟩ ho hfl b2
 unfold readT
 simp only [hs]
 rw [if_pos ⟨k1, x1.trans hm⟩, ← hm]
 have b1' : bodyT ts x.w ⟨0, det0, false⟩ = .ok ⟨j, putL det0 x, false⟩ := b1
 simp only [b1', h3, hr, if_true]
def demL (d : List UInt8 × List Int × List (List Int)) : List Ln := ⟨wDemand, d.1, d.2.1⟩ :: d.2.2.map (fun n => ⟨wStep, [], n⟩)
def linesD (d : Det) : List Ln :=
 d.boxes.map (fun n => ⟨wBox, [], n⟩) ++ (d.holes.map (fun n => ⟨wHole, [], n⟩) ++ (⟨wRule, [], d.rule⟩ :: (d.bars.map (fun b => ⟨wBar, b.1, b.2⟩) ++ (d.runs.map (fun b => ⟨wRun, b.1, b.2⟩) ++ (d.laps.map (fun n => ⟨wLap, [], n⟩) ++ d.dems.flatMap demL)))))
structure Det.wf (d : Det) : Prop where
 mem : d.mem.length = 3
 boxes : ∀ n ∈ d.boxes, n.length = 6
 holes : ∀ n ∈ d.holes, n.length = 6
 rule : d.rule.length = 9
 bars : ∀ b ∈ d.bars, 4 ≤ b.2.length
 runs : ∀ b ∈ d.runs, b.2.length = 9
 laps : ∀ n ∈ d.laps, n.length = 2
 dems : ∀ x ∈ d.dems, x.2.1.length = 6 ∧ ∀ n ∈ x.2.2, n.length = 2
theorem stepD_last (r : List (List UInt8 × List Int × List (List Int))) (m : List UInt8) (z : List Int) (l : List (List Int)) (n : List Int) : stepD (r ++ [(m, z, l)]) n = r ++ [(m, z, l ++ [n])] := by
 induction r with
 | nil => rfl
 | cons a r ih =>
  cases r with
  | nil => obtain ⟨a1, a2, a3⟩ := a; rfl
  | cons b r =>
   obtain ⟨a1, a2, a3⟩ := a
   show (a1, a2, a3) :: stepD (b :: r ++ [(m, z, l)]) n = _
   rw [ih]
   rfl
theorem run_boxes : ∀ (l : List (List Int)) (s : Sd), runLs (l.map (fun n => (⟨wBox, [], n⟩ : Ln))) s = ({ s.1 with boxes := s.1.boxes ++ l }, s.2)
 | [], s => by simp [runLs]
 | n :: l, s => by
  rw [List.map_cons, runLs_cons, run_boxes l]
  have e : stepL s ⟨wBox, [], n⟩ = ({ s.1 with boxes := s.1.boxes ++ [n] }, s.2) := by
   unfold stepL putL putD
   simp [wBox, wMember, wRule]
  rw [e]
  simp
theorem run_holes : ∀ (l : List (List Int)) (s : Sd), runLs (l.map (fun n => (⟨wHole, [], n⟩ : Ln))) s = ({ s.1 with holes := s.1.holes ++ l }, s.2)
 | [], s => by simp [runLs]
 | n :: l, s => by
  rw [List.map_cons, runLs_cons, run_holes l]
  have e : stepL s ⟨wHole, [], n⟩ = ({ s.1 with holes := s.1.holes ++ [n] }, s.2) := by
   unfold stepL putL putD
   simp [wBox, wHole, wMember, wRule]
  rw [e]
  simp
theorem run_bars : ∀ (l : List (List UInt8 × List Int)) (s : Sd), runLs (l.map (fun b => (⟨wBar, b.1, b.2⟩ : Ln))) s = ({ s.1 with bars := s.1.bars ++ l }, s.2)
 | [], s => by simp [runLs]
 | n :: l, s => by
  rw [List.map_cons, runLs_cons, run_bars l]
  have e : stepL s ⟨wBar, n.1, n.2⟩ = ({ s.1 with bars := s.1.bars ++ [n] }, s.2) := by
   unfold stepL putL putD
   simp [namedW, wBox, wHole, wMember, wRule, wBar, wRun, wDemand]
  rw [e]
  simp
theorem run_runs : ∀ (l : List (List UInt8 × List Int)) (s : Sd), runLs (l.map (fun b => (⟨wRun, b.1, b.2⟩ : Ln))) s = ({ s.1 with runs := s.1.runs ++ l }, s.2)
 | [], s => by simp [runLs]
 | n :: l, s => by
  rw [List.map_cons, runLs_cons, run_runs l]
  have e : stepL s ⟨wRun, n.1, n.2⟩ = ({ s.1 with runs := s.1.runs ++ [n] }, s.2) := by
   unfold stepL putL putD
   simp [namedW, wBox, wHole, wMember, wRule, wBar, wRun, wDemand]
  rw [e]
  simp
theorem run_laps : ∀ (l : List (List Int)) (s : Sd), runLs (l.map (fun n => (⟨wLap, [], n⟩ : Ln))) s = ({ s.1 with laps := s.1.laps ++ l }, s.2)
 | [], s => by simp [runLs]
 | n :: l, s => by
  rw [List.map_cons, runLs_cons, run_laps l]
  have e : stepL s ⟨wLap, [], n⟩ = ({ s.1 with laps := s.1.laps ++ [n] }, s.2) := by
   unfold stepL putL putD
   simp [wBox, wHole, wMember, wRule, wBar, wRun, wLap]
  rw [e]
  simp
theorem run_steps : ∀ (l : List (List Int)) (s : Sd) (r : List (List UInt8 × List Int × List (List Int))) (m : List UInt8) (z : List Int) (k : List (List Int)), s.1.dems = r ++ [(m, z, k)] → runLs (l.map (fun n => (⟨wStep, [], n⟩ : Ln))) s = ({ s.1 with dems := r ++ [(m, z, k ++ l)] }, s.2)
 | [], s, r, m, z, k, h => by
  obtain ⟨d, b⟩ := s
  simp only at h
  simp [runLs, ← h]
 | n :: l, s, r, m, z, k, h => by
  have e : stepL s ⟨wStep, [], n⟩ = ({ s.1 with dems := r ++ [(m, z, k ++ [n])] }, s.2) := by
   unfold stepL putL putD
   simp [wBox, wHole, wMember, wRule, wBar, wRun, wDemand, wLap, wStep]
   rw [h, stepD_last]
  rw [List.map_cons, runLs_cons, e, run_steps l _ r m z (k ++ [n]) rfl]
  simp
theorem run_dems : ∀ (l : List (List UInt8 × List Int × List (List Int))) (s : Sd), runLs (l.flatMap demL) s = ({ s.1 with dems := s.1.dems ++ l }, s.2)
 | [], s => by simp [runLs]
 | x :: l, s => by
  have e : stepL s ⟨wDemand, x.1, x.2.1⟩ = ({ s.1 with dems := s.1.dems ++ [(x.1, x.2.1, [])] }, s.2) := by
   unfold stepL putL putD
   simp [namedW, wBox, wHole, wMember, wRule, wBar, wRun, wDemand, wLap]
  rw [List.flatMap_cons, runLs_app, demL, runLs_cons, e, run_steps x.2.2 _ s.1.dems x.1 x.2.1 [] rfl, run_dems l]
  simp
theorem run_lines (d : Det) (s : Sd) (h1 : s.1.boxes = []) (h2 : s.1.holes = []) (h3 : s.1.bars = []) (h4 : s.1.runs = []) (h5 : s.1.laps = []) (h6 : s.1.dems = []) : runLs (linesD d) s = ({ d with name := s.1.name, mem := s.1.mem }, true) := by
 have e : ∀ s : Sd, stepL s ⟨wRule, [], d.rule⟩ = ({ s.1 with rule := d.rule }, true) := fun s => by
  unfold stepL putL putD
  simp [wBox, wHole, wMember, wRule]
 unfold linesD
 rw [runLs_app, run_boxes, runLs_app, run_holes, runLs_cons, e, runLs_app, run_bars, runLs_app, run_runs, runLs_app, run_laps, run_dems]
 simp [h1, h2, h3, h4, h5, h6]
end Go.Proofs.YtccakklnbhcbdaaGreatDoor
set_option linter.unusedVariables false
namespace Go.Proofs.YtccakklnbhcbdaaGreatDoor
open Go.Lib (decDigits itoa)
theorem tokG_sp (f : Nat) (r : List UInt8) (line col : Int) : tokG (f + 1) (32 :: r) line col = tokG f r line (col + 1) := by
 conv => lhs; unfold tokG
 rw [if_neg (by simp), nextL_sp]
 simp only [List.drop_succ_cons, List.drop_zero]
 rw [if_neg (by decide), if_neg (by decide)]
 rfl
theorem tokG_nl (f : Nat) (r : List UInt8) (line col : Int) : tokG (f + 1) (10 :: r) line col = (tokG f r (line + 1) 1).map (⟨4, [], line, col⟩ :: ·) := by
 conv => lhs; unfold tokG
 rw [if_neg (by simp), nextL_nl]
 simp only [List.drop_succ_cons, List.drop_zero]
 rw [if_neg (by decide)]
 rfl
theorem tokG_tok {f : Nat} {t r : List UInt8} {k : Int} (hk : 1 ≤ k ∧ k ≤ 3) (ht : t ≠ []) (hn : nextL (t ++ r) = (k, t.length)) (line col : Int) : tokG (f + 1) (t ++ r) line col = (tokG f r line (col + t.length)).map (⟨k, t, line, col⟩ :: ·) := by
 conv => lhs; unfold tokG
 rw [if_neg (by simp [ht]), hn]
 simp only
 rw [if_neg (by omega), if_neg (by omega), if_neg (by omega), List.drop_left, List.take_left]
theorem next_word {t r : List UInt8} {c : UInt8} (ht : nameB t = true) (hc : isWrd c = false) : nextL (t ++ c :: r) = (1, t.length) := by
 unfold nameB at ht
 simp only [Bool.and_eq_true, Bool.not_eq_true', decide_eq_true_eq] at ht
 obtain ⟨⟨⟨h1, h2⟩, h3⟩, h4⟩ := ht
 cases t with
 | nil => simp at h1
 | cons x t =>
  have h3' : isLet x = true := h3
  have hall : (x :: t).all isWrd = true := by
   have e0 : (x :: t).takeWhile isWrd = x :: t := (List.takeWhile_prefix isWrd).eq_of_length h4
   have := List.all_takeWhile (p := isWrd) (l := x :: t)
   rwa [e0] at this
  have e1 := runL_all hall c hc r
  rw [List.cons_append] at e1 ⊢
  have l1 : ¬ (x.toNat = 32 ∨ x.toNat = 9) := by
   rintro (q | q)
   ·rw [show x = 32 from UInt8.toNat_inj.1 q] at h3'; exact absurd h3' (by decide)
   ·rw [show x = 9 from UInt8.toNat_inj.1 q] at h3'; exact absurd h3' (by decide)
  have l2 : ¬ x.toNat = 10 := by
   intro q
   rw [show x = 10 from UInt8.toNat_inj.1 q] at h3'; exact absurd h3' (by decide)
  have l3 : ¬ x.toNat = 35 := by
   intro q
   rw [show x = 35 from UInt8.toNat_inj.1 q] at h3'; exact absurd h3' (by decide)
  rw [nextL_name l1 l2 l3 h3', e1, if_neg (by omega)]
theorem next_dec (n : Nat) (r : List UInt8) (c : UInt8) (hc : isDig c = false ∧ c.toNat ≠ 46) : nextL (decDigits n ++ c :: r) = (2, (decDigits n).length) := by
 have hd := dec_dig n
 have hall : (decDigits n).all isDig = true := by
  rw [List.all_eq_true]
  intro b hb
  exact List.all_eq_true.1 hd.1 b hb
 obtain ⟨x, t, hx⟩ := List.exists_cons_of_ne_nil hd.2
 have hnum : numL (decDigits n ++ c :: r) = (decDigits n).length := by
  unfold numL numA
  rw [runA_zero, runL_all hall c hc.1, getD_mid, if_neg (by simp [hc.2])]
 rw [hx] at hall hnum ⊢
 rw [List.cons_append] at hnum ⊢
 have hdx : isDig x = true := by simp only [List.all_cons, Bool.and_eq_true] at hall; exact hall.1
 have hb : 48 ≤ x.toNat ∧ x.toNat ≤ 57 := by simpa [isDig] using hdx
 rw [nextL_num (by omega) (by omega) (by omega) (by simp [isLet]; omega) hdx, hnum]
theorem next_minus (r : List UInt8) : nextL (45 :: r) = (3, 1) := by
 have e : symL (45 :: r) = 1 := by
  rw [symL_cons, if_neg (by simp), if_pos (by decide)]
 rw [nextL_sym (by decide) (by decide) (by decide) (by decide) (by decide), e]
 rfl
def Gives (t : List UInt8) (k : List KT) (c : UInt8) : Prop := ∀ (r : List UInt8) (f : Nat) (line col : Int), (t ++ c :: r).length ≤ f → ∃ g ts line' col', (c :: r).length ≤ g ∧ ts.map kt = k ∧ tokG f (t ++ c :: r) line col = (tokG g (c :: r) line' col').map (ts ++ ·)
theorem Gives.nil (c : UInt8) : Gives [] [] c := fun r f line col hf => ⟨f, [], line, col, hf, rfl, by simp⟩
theorem Gives.app {t u : List UInt8} {k m : List KT} {c : UInt8} {d : UInt8} {v : List UInt8} (hu : u = d :: v) (h1 : Gives t k d) (h2 : Gives u m c) : Gives (t ++ u) (k ++ m) c := by
 intro r f line col hf
 subst hu
 obtain ⟨g, ts, l1, c1, a1, a2, a3⟩ := h1 (v ++ c :: r) f line col (by simpa using hf)
 obtain ⟨g2, ts2, l2, c2, b1, b2, b3⟩ := h2 r g l1 c1 (by simpa using a1)
 refine ⟨g2, ts ++ ts2, l2, c2, b1, by rw [List.map_append, a2, b2], ?_⟩
 have e : t ++ d :: v ++ c :: r = t ++ d :: (v ++ c :: r) := by simp
 rw [e, a3, show d :: (v ++ c :: r) = (d :: v) ++ c :: r from rfl, b3, Option.map_map]
 congr 1
 funext x
 simp
theorem Gives.word {t : List UInt8} {c : UInt8} (ht : nameB t = true) (hc : isWrd c = false) : Gives t [(1, t)] c := by
 intro r f line col hf
 have hne : t ≠ [] := by
  rintro rfl
  exact absurd ht (by decide)
 have hp := List.length_pos_iff.2 hne
 rw [List.length_append] at hf
 obtain ⟨f, rfl⟩ : ∃ g, f = g + 1 := ⟨f - 1, by omega⟩
 exact ⟨f, [⟨1, t, line, col⟩], line, col + t.length, by omega, rfl, tokG_tok (by omega) hne (next_word ht hc) line col⟩
theorem Gives.num {n : Int} {c : UInt8} (hc : isDig c = false ∧ c.toNat ≠ 46) : Gives (32 :: itoa n) (numK n) c := by
 intro r f line col hf
 have hd := (dec_dig n.natAbs).2
 have hp := List.length_pos_iff.2 hd
 by_cases hs : n < 0
 ·have e : itoa n = 45 :: decDigits n.natAbs := by
   unfold itoa
   rw [if_pos hs]
  rw [e] at hf ⊢
  simp only [List.cons_append, List.length_cons, List.length_append] at hf
  obtain ⟨f, rfl⟩ : ∃ g, f = g + 3 := ⟨f - 3, by omega⟩
  refine ⟨f, [⟨3, [45], line, col + 1⟩, ⟨2, decDigits n.natAbs, line, col + 1 + 1⟩], line, col + 1 + 1 + (decDigits n.natAbs).length, by simp only [List.length_cons]; omega, by unfold numK; rw [if_pos hs]; rfl, ?_⟩
  show tokG (f + 2 + 1) (32 :: (45 :: (decDigits n.natAbs ++ c :: r))) line col = _
  rw [tokG_sp]
  have t1 := tokG_tok (f := f + 1) (t := [45]) (r := decDigits n.natAbs ++ c :: r) (k := 3) (by omega) (by simp) (next_minus _) line (col + 1)
  have t2 := tokG_tok (f := f) (t := decDigits n.natAbs) (r := c :: r) (k := 2) (by omega) hd (next_dec _ r c hc) line (col + 1 + 1)
  show tokG (f + 1 + 1) ([45] ++ (decDigits n.natAbs ++ c :: r)) line (col + 1) = _
  rw [t1]
  have e1 : (([45] : List UInt8).length : Int) = 1 := rfl
  rw [e1, t2, Option.map_map]
  rfl
 ·have e : itoa n = decDigits n.natAbs := by
   unfold itoa
   rw [if_neg hs, show n.toNat = n.natAbs by omega]
  rw [e] at hf ⊢
  simp only [List.cons_append, List.length_cons, List.length_append] at hf
  obtain ⟨f, rfl⟩ : ∃ g, f = g + 2 := ⟨f - 2, by omega⟩
  refine ⟨f, [⟨2, decDigits n.natAbs, line, col + 1⟩], line, col + 1 + (decDigits n.natAbs).length, by simp only [List.length_cons]; omega, by unfold numK; rw [if_neg hs]; rfl, ?_⟩
  show tokG (f + 1 + 1) (32 :: (decDigits n.natAbs ++ c :: r)) line col = _
  rw [tokG_sp, tokG_tok (f := f) (t := decDigits n.natAbs) (r := c :: r) (k := 2) (by omega) hd (next_dec _ r c hc) line (col + 1)]
  rfl
theorem Gives.nums : ∀ (l : List Int), Gives (l.flatMap fun n => 32 :: itoa n) (l.flatMap numK) 10
 | [] => Gives.nil 10
 | [n] => by
  have := Gives.num (n := n) (c := 10) (by decide)
  simpa using this
 | n :: m :: l => by
  have h1 := Gives.num (n := n) (c := 32) (by decide)
  have h2 := Gives.nums (m :: l)
  rw [List.flatMap_cons, List.flatMap_cons (f := numK)]
  exact Gives.app (d := 32) (v := itoa m ++ l.flatMap fun n => 32 :: itoa n) (by simp) h1 h2
def lnT (x : Ln) : List UInt8 := lnB (if namedW x.w then x.w ++ 32 :: x.nm else x.w) x.n
theorem least_name {w : List UInt8} (h : 0 < leastW w) : nameB w = true := by
 unfold leastW at h
 repeat (first | (split at h; (rename_i q; rw [q]; decide)) | split at h)
 all_goals first | (rename_i q; rw [q]; decide) | omega
theorem line_gives {x : Ln} (hx : x.good) (r : List UInt8) (f : Nat) (line col : Int) (hf : (lnT x ++ r).length ≤ f) : ∃ g ts line', r.length ≤ g ∧ ts.map kt = lnK x ∧ tokG f (lnT x ++ r) line col = (tokG g r line' 1).map (ts ++ ·) := by
 have hw := least_name hx.least
 have hwne : x.n.flatMap (fun n => 32 :: itoa n) = [] ∨ ∃ v, x.n.flatMap (fun n => 32 :: itoa n) = 32 :: v := by
  cases x.n with
  | nil => exact .inl rfl
  | cons n l => exact .inr ⟨_, rfl⟩
 have hwords : Gives ((if namedW x.w then x.w ++ 32 :: x.nm else x.w) ++ x.n.flatMap fun n => 32 :: itoa n) ((1, x.w) :: ((if namedW x.w then [(1, x.nm)] else []) ++ x.n.flatMap numK)) 10 := by
  have hnum := Gives.nums x.n
  have sp : ∀ {t : List UInt8} {k : List KT} {c : UInt8}, Gives t k c → Gives (32 :: t) k c := by
   intro t k c h r f line col hf
   obtain ⟨f, rfl⟩ : ∃ g, f = g + 1 := ⟨f - 1, by simp at hf; omega⟩
   rw [List.cons_append, tokG_sp]
   exact h r f line (col + 1) (by simpa using hf)
  by_cases hn : namedW x.w = true
  ·rw [if_pos hn, if_pos hn]
   have hnm := hx.nm hn
   rcases hwne with e | ⟨v, e⟩
   ·have e2 : x.n.flatMap numK = [] := by
     cases hxn : x.n with
     | nil => rfl
     | cons n l => rw [hxn] at e; simp at e
    rw [e, e2, List.append_nil, List.append_nil]
    exact Gives.app (d := 32) (v := x.nm) rfl (Gives.word hw (by decide)) (sp (Gives.word hnm (by decide)))
   ·rw [List.append_assoc]
    refine Gives.app (k := [(1, x.w)]) (d := 32) (v := x.nm ++ x.n.flatMap fun n => 32 :: itoa n) (by simp) (Gives.word hw (by decide)) ?_
    rw [List.cons_append]
    refine sp ?_
    exact Gives.app (k := [(1, x.nm)]) e (Gives.word hnm (by decide)) hnum
  ·rw [if_neg hn, if_neg hn, List.nil_append]
   rcases hwne with e | ⟨v, e⟩
   ·have e2 : x.n.flatMap numK = [] := by
     cases hxn : x.n with
     | nil => rfl
     | cons n l => rw [hxn] at e; simp at e
    rw [e, e2, List.append_nil]
    exact Gives.word hw (by decide)
   ·exact Gives.app (k := [(1, x.w)]) e (Gives.word hw (by decide)) hnum
 have e0 : lnT x ++ r = ((if namedW x.w then x.w ++ 32 :: x.nm else x.w) ++ x.n.flatMap fun n => 32 :: itoa n) ++ 10 :: r := by
  unfold lnT lnB
  simp
 rw [e0] at hf ⊢
 obtain ⟨g, ts, l1, c1, a1, a2, a3⟩ := hwords r f line col hf
 obtain ⟨g, rfl⟩ : ∃ g', g = g' + 1 := ⟨g - 1, by simp at a1; omega⟩
 refine ⟨g, ts ++ [⟨4, [], l1, c1⟩], l1 + 1, by simpa using a1, ?_, ?_⟩
 ·rw [List.map_append, a2]
  unfold lnK
  simp [kt]
 ·rw [a3, tokG_nl, Option.map_map]
  congr 1
  funext y
  simp
theorem lines_give : ∀ (l : List Ln), (∀ x ∈ l, x.good) → ∀ (f : Nat) (line col : Int), (l.flatMap lnT).length ≤ f → ∃ ts, tokG f (l.flatMap lnT) line col = some ts ∧ ts.map kt = l.flatMap lnK ++ [(5, [])]
 | [], _, f, line, col, _ => by
  refine ⟨[⟨5, [], line, col⟩], ?_, rfl⟩
  cases f with
  | zero => rfl
  | succ f => exact if_pos rfl
 | x :: l, hg, f, line, col, hf => by
  rw [List.flatMap_cons] at hf ⊢
  obtain ⟨g, ts, l1, a1, a2, a3⟩ := line_gives (hg x (by simp)) (l.flatMap lnT) f line col hf
  obtain ⟨ts2, b1, b2⟩ := lines_give l (fun y hy => hg y (by simp [hy])) g l1 1 a1
  refine ⟨ts ++ ts2, by rw [a3, b1]; rfl, ?_⟩
  rw [List.map_append, a2, b2, List.flatMap_cons, List.append_assoc]
end Go.Proofs.YtccakklnbhcbdaaGreatDoor
set_option linter.unusedVariables false
namespace Go.Proofs.YtccakklnbhcbdaaGreatDoor
def plainL (x : Ln) : Prop := x.good ∧ x.w ≠ wMember ∧ x.w ≠ wRule ∧ x.w ≠ wStep
theorem okLs_plain : ∀ (l : List Ln) (s : Sd), (∀ x ∈ l, plainL x) → okLs l s
 | [], _, _ => trivial
 | x :: l, s, h => by
  obtain ⟨h1, h2, h3, h4⟩ := h x (by simp)
  exact ⟨⟨h1, h2, fun q => absurd q h3, fun q => absurd q h4⟩, okLs_plain l _ (fun y hy => h y (by simp [hy]))⟩
theorem good_plain {w : List UInt8} {nm : List UInt8} {n : List Int} (hw : 0 < leastW w) (hb : w ≠ wBar) (hn : n.length = leastW w) (hf : fitB n = true) (hm : namedW w = true → nameB nm = true) : Ln.good ⟨w, nm, n⟩ where
 least := hw
 len := by rw [if_neg hb]; exact hn
 fit := fit_all hf
 nm := hm
theorem plain_of {w nm : List UInt8} {n : List Int} (g : Ln.good ⟨w, nm, n⟩) (h1 : w ≠ wMember) (h2 : w ≠ wRule) (h3 : w ≠ wStep) : plainL ⟨w, nm, n⟩ := ⟨g, h1, h2, h3⟩
theorem plain_box {n : List Int} (hn : n.length = 6) (hf : fitB n = true) : plainL ⟨wBox, [], n⟩ := plain_of (good_plain (by decide) (by decide) hn hf (fun h => absurd h (by decide))) (by decide) (by decide) (by decide)
theorem plain_hole {n : List Int} (hn : n.length = 6) (hf : fitB n = true) : plainL ⟨wHole, [], n⟩ := plain_of (good_plain (by decide) (by decide) hn hf (fun h => absurd h (by decide))) (by decide) (by decide) (by decide)
theorem plain_lap {n : List Int} (hn : n.length = 2) (hf : fitB n = true) : plainL ⟨wLap, [], n⟩ := plain_of (good_plain (by decide) (by decide) hn hf (fun h => absurd h (by decide))) (by decide) (by decide) (by decide)
theorem plain_run {m : List UInt8} {n : List Int} (hn : n.length = 9) (hf : fitB n = true) (hm : nameB m = true) : plainL ⟨wRun, m, n⟩ := plain_of (good_plain (by decide) (by decide) hn hf (fun _ => hm)) (by decide) (by decide) (by decide)
theorem plain_dem {m : List UInt8} {n : List Int} (hn : n.length = 6) (hf : fitB n = true) (hm : nameB m = true) : plainL ⟨wDemand, m, n⟩ := plain_of (good_plain (by decide) (by decide) hn hf (fun _ => hm)) (by decide) (by decide) (by decide)
theorem plain_bar {m : List UInt8} {n : List Int} (hn : 4 ≤ n.length) (hf : fitB n = true) (hm : nameB m = true) : plainL ⟨wBar, m, n⟩ := ⟨{ least := by show 0 < leastW wBar; decide, len := by rw [if_pos rfl]; exact hn, fit := fit_all hf, nm := fun _ => hm }, by show wBar ≠ wMember; decide, by show wBar ≠ wRule; decide, by show wBar ≠ wStep; decide⟩
theorem okLs_steps : ∀ (l : List (List Int)) (s : Sd), (∀ n ∈ l, n.length = 2 ∧ fitB n = true) → (∃ r x, s.1.dems = r ++ [x]) → okLs (l.map (fun n => (⟨wStep, [], n⟩ : Ln))) s
 | [], _, _, _ => trivial
 | n :: l, s, h, ⟨r, ⟨m, z, k⟩, hd⟩ => by
  obtain ⟨h1, h2⟩ := h n (by simp)
  refine ⟨⟨good_plain (by decide) (by decide) h1 h2 (fun q => absurd q (by decide)), (by show wStep ≠ wMember; decide), (fun q => absurd q (by show wStep ≠ wRule; decide)), fun _ e => by rw [hd] at e; simp at e⟩, ?_⟩
  refine okLs_steps l _ (fun y hy => h y (by simp [hy])) ⟨r, (m, z, k ++ [n]), ?_⟩
  have := run_steps [n] s r m z k hd
  have e : stepL s ⟨wStep, [], n⟩ = ({ s.1 with dems := r ++ [(m, z, k ++ [n])] }, s.2) := this
  rw [e]
theorem okLs_dems : ∀ (l : List (List UInt8 × List Int × List (List Int))) (s : Sd), (∀ x ∈ l, (x.2.1.length = 6 ∧ ∀ n ∈ x.2.2, n.length = 2) ∧ demOk x = true) → okLs (l.flatMap demL) s
 | [], _, _ => trivial
 | x :: l, s, h => by
  obtain ⟨⟨h1, h2⟩, h3⟩ := h x (by simp)
  unfold demOk at h3
  simp only [Bool.and_eq_true, decide_eq_true_eq] at h3
  obtain ⟨⟨⟨h4, h5⟩, h6⟩, h7⟩ := h3
  rw [List.flatMap_cons, okLs_app]
  refine ⟨?_, okLs_dems l _ (fun y hy => h y (by simp [hy]))⟩
  obtain ⟨g1, g2, g3, g4⟩ := plain_dem h1 h5 h4
  refine ⟨⟨g1, g2, fun q => absurd q g3, fun q => absurd q g4⟩, ?_⟩
  refine okLs_steps x.2.2 _ (fun n hn => ⟨h2 n hn, List.all_eq_true.1 h7 n hn⟩) ⟨s.1.dems, (x.1, x.2.1, []), ?_⟩
  have e := run_dems [(x.1, x.2.1, [])] s
  have e2 : runLs ([((x.1, x.2.1, []) : List UInt8 × List Int × List (List Int))].flatMap demL) s = stepL s ⟨wDemand, x.1, x.2.1⟩ := rfl
  rw [e2] at e
  rw [e]
theorem wrD_parts {d : Det} (h : wrD d = true) : nameB d.name = true ∧ fitB d.mem = true ∧ (∀ n ∈ d.boxes, fitB n = true) ∧ (∀ n ∈ d.holes, fitB n = true) ∧ fitB d.rule = true ∧ (∀ b ∈ d.bars, barOk b = true) ∧ (∀ b ∈ d.runs, runOk b = true) ∧ (∀ n ∈ d.laps, fitB n = true) ∧ (∀ x ∈ d.dems, demOk x = true) := by
 unfold wrD at h
 simp only [Bool.and_eq_true, decide_eq_true_eq] at h
 obtain ⟨⟨⟨⟨⟨⟨⟨⟨⟨⟨⟨⟨⟨⟨h1, h2⟩, _⟩, h4⟩, _⟩, h6⟩, h7⟩, _⟩, h9⟩, _⟩, h11⟩, _⟩, h13⟩, _⟩, h15⟩ := h
 exact ⟨h1, h2, fun n hn => List.all_eq_true.1 h4 n hn, fun n hn => List.all_eq_true.1 h6 n hn, h7, fun b hb => List.all_eq_true.1 h9 b hb, fun b hb => List.all_eq_true.1 h11 b hb, fun n hn => List.all_eq_true.1 h13 n hn, fun x hx => List.all_eq_true.1 h15 x hx⟩
def memL (d : Det) : Ln := ⟨wMember, d.name, d.mem⟩
theorem putL_mem (d : Det) : putL det0 (memL d) = { det0 with name := d.name, mem := d.mem } := by
 show putD det0 wMember (if namedW wMember then d.name else []) d.mem = _
 rw [if_pos (by decide)]
 unfold putD
 rw [if_pos rfl]
theorem linesD_ok {d : Det} (hw : d.wf) (h : wrD d = true) : (memL d).good ∧ okLs (linesD d) (putL det0 (memL d), false) ∧ runLs (linesD d) (putL det0 (memL d), false) = (d, true) := by
 obtain ⟨h1, h2, h3, h4, h5, h6, h7, h8, h9⟩ := wrD_parts h
 refine ⟨good_plain (by decide) (by decide) hw.mem h2 (fun _ => h1), ?_, ?_⟩
 ·unfold linesD
  rw [okLs_app, okLs_app]
  refine ⟨okLs_plain _ _ ?_, okLs_plain _ _ ?_, ⟨⟨good_plain (by decide) (by decide) hw.rule h5 (fun q => absurd q (by decide)), (by show wRule ≠ wMember; decide), (fun _ => ?_), (fun q => absurd q (by show wRule ≠ wStep; decide))⟩, ?_⟩⟩
  ·intro x hx
   obtain ⟨n, hn, rfl⟩ := List.mem_map.1 hx
   exact plain_box (hw.boxes n hn) (h3 n hn)
  ·intro x hx
   obtain ⟨n, hn, rfl⟩ := List.mem_map.1 hx
   exact plain_hole (hw.holes n hn) (h4 n hn)
  ·rw [run_boxes, run_holes]
  ·rw [okLs_app, okLs_app, okLs_app]
   refine ⟨okLs_plain _ _ ?_, okLs_plain _ _ ?_, okLs_plain _ _ ?_, okLs_dems _ _ (fun x hx => ⟨hw.dems x hx, h9 x hx⟩)⟩
   ·intro x hx
    obtain ⟨b, hb, rfl⟩ := List.mem_map.1 hx
    have := h6 b hb
    unfold barOk at this
    simp only [Bool.and_eq_true, decide_eq_true_eq] at this
    exact plain_bar (hw.bars b hb) this.2 this.1.1.1
   ·intro x hx
    obtain ⟨b, hb, rfl⟩ := List.mem_map.1 hx
    have := h7 b hb
    unfold runOk at this
    simp only [Bool.and_eq_true] at this
    exact plain_run (hw.runs b hb) this.2 this.1
   ·intro x hx
    obtain ⟨n, hn, rfl⟩ := List.mem_map.1 hx
    exact plain_lap (hw.laps n hn) (h8 n hn)
 ·rw [putL_mem, run_lines d _ rfl rfl rfl rfl rfl rfl]
theorem okLs_good : ∀ (l : List Ln) (s : Sd), okLs l s → ∀ x ∈ l, x.good
 | x :: l, s, h, y, hy => by
  rcases List.mem_cons.1 hy with rfl | q
  ·exact h.1.1
  ·exact okLs_good l _ h.2 y q
theorem flat_map {α β γ : Type} (l : List α) (f : α → β) (g : β → List γ) : (l.map f).flatMap g = l.flatMap fun x => g (f x) := by
 induction l with
 | nil => rfl
 | cons a l ih => rw [List.map_cons, List.flatMap_cons, List.flatMap_cons, ih]
theorem lnT_box (n : List Int) : lnT ⟨wBox, [], n⟩ = lnB wBox n := rfl
theorem lnT_hole (n : List Int) : lnT ⟨wHole, [], n⟩ = lnB wHole n := rfl
theorem lnT_rule (n : List Int) : lnT ⟨wRule, [], n⟩ = lnB wRule n := rfl
theorem lnT_lap (n : List Int) : lnT ⟨wLap, [], n⟩ = lnB wLap n := rfl
theorem lnT_step (n : List Int) : lnT ⟨wStep, [], n⟩ = lnB wStep n := rfl
theorem lnT_bar (m : List UInt8) (n : List Int) : lnT ⟨wBar, m, n⟩ = lnB (wBar ++ 32 :: m) n := rfl
theorem lnT_run (m : List UInt8) (n : List Int) : lnT ⟨wRun, m, n⟩ = lnB (wRun ++ 32 :: m) n := rfl
theorem lnT_dem (m : List UInt8) (n : List Int) : lnT ⟨wDemand, m, n⟩ = lnB (wDemand ++ 32 :: m) n := rfl
theorem lnT_mem (d : Det) : lnT (memL d) = lnB (wMember ++ 32 :: d.name) d.mem := rfl
theorem demL_text (x : List UInt8 × List Int × List (List Int)) : (demL x).flatMap lnT = lnB (wDemand ++ 32 :: x.1) x.2.1 ++ x.2.2.flatMap (lnB wStep) := by
 unfold demL
 rw [List.flatMap_cons, flat_map]
 simp only [lnT_dem, lnT_step]
theorem textD_lines (d : Det) : textD d = (memL d :: linesD d).flatMap lnT := by
 unfold textD linesD
 simp only [List.flatMap_cons, List.flatMap_append, flat_map, List.flatMap_assoc, demL_text, lnT_box, lnT_hole, lnT_rule, lnT_lap, lnT_bar, lnT_run, lnT_mem, List.append_assoc]
theorem tokS_of {T : List UInt8} {ts : List Tk} (hl : T.length ≤ 262144) (t1 : tokG T.length T 1 1 = some ts) : tokS T = (ts, (0, 0), 0) := by
 unfold tokS
 rw [if_neg (by omega)]
 rcases tokF_G T.length T 1 1 [] with ⟨ts', w1, w2⟩ | ⟨w1, _⟩
 ·rw [t1] at w1
  injection w1 with w1
  subst w1
  rw [w2]
  rfl
 ·rw [t1] at w1
  cases w1
theorem readS_of {T : List UInt8} {ts : List Tk} {d : Det} (hs : tokS T = (ts, (0, 0), 0)) (hr : readT ts = .ok d) : readS T = (d, (0, 0), 0) := by
 unfold readS
 rw [hs]
 simp only [ne_eq, not_true_eq_false, if_false, hr]
theorem srcS_of {T : List UInt8} {d : Det} (hR : readS T = (d, (0, 0), 0)) (h : wrD d = true) : srcS T = (d, (0, 0), 0) := by
 unfold srcS
 rw [hR]
 simp only [ne_eq, not_true_eq_false, if_false, h, if_true]
theorem read_text {d : Det} (hw : d.wf) (h : wrD d = true) (hl : (textD d).length ≤ 262144) : readS (textD d) = (d, (0, 0), 0) ∧ srcS (textD d) = (d, (0, 0), 0) := by
 obtain ⟨g1, g2, g3⟩ := linesD_ok hw h
 obtain ⟨ts, t1, t2⟩ := lines_give (memL d :: linesD d) (by
  intro x hx
  rcases List.mem_cons.1 hx with rfl | q
  ·exact g1
  ·exact okLs_good _ _ g2 x q) (textD d).length 1 1 (by rw [textD_lines]; exact Nat.le_refl _)
 rw [← textD_lines] at t1
 have hs : tokS (textD d) = (ts, (0, 0), 0) := tokS_of hl t1
 have hr : readT ts = .ok d := by
  have := readT_of (ts := ts) (x := memL d) (l := linesD d) g1 rfl g2 (by rw [g3]) (by
   unfold ktFrom
   rw [List.drop_zero, t2, List.flatMap_cons, List.append_assoc])
  rw [g3] at this
  exact this
 have hR : readS (textD d) = (d, (0, 0), 0) := readS_of hs hr
 exact ⟨hR, srcS_of hR h⟩
end Go.Proofs.YtccakklnbhcbdaaGreatDoor
