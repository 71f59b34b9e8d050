import Derived.Test.YtccakklnbhcbdaaGreatDoorFSoZ
set_option linter.unusedVariables false
namespace Go.Proofs.YtccakklnbhcbdaaGreatDoor
section
variable {ts : List Tk}
def appN (acc : List Int) : Except Nat (List Int × Nat) → Except Nat (List Int × Nat)
 | .error e => .error e
 | .ok (l, j) => .ok (acc ++ l, j)
def linF (ts : List Tk) (k : Nat) (more : Bool) (i : Nat) : Except Nat (List Int × Nat) :=
 match numsT ts k i with
 | .error e => .error e
 | .ok (l, j) => if more then appN l (dimsT ts ts.length j) else .ok (l, j)
theorem lineT_lin (w : List UInt8) (i : Nat) : lineT ts w i = linF ts (leastW w) (decide (w = wBar)) i := by
 unfold lineT linF
 cases numsT ts (leastW w) i with
 | error e => rfl
 | ok x =>
  obtain ⟨l, j⟩ := x
  dsimp only
  by_cases h : w = wBar
  ·rw [if_pos h, decide_eq_true h, if_pos rfl]
   cases dimsT ts ts.length j with
   | error e => rfl
   | ok y => rfl
  ·rw [if_neg h, decide_eq_false h]
   rfl
theorem appN_app (a b : List Int) (x : Except Nat (List Int × Nat)) : appN a (appN b x) = appN (a ++ b) x := by
 cases x with
 | error e => rfl
 | ok y => simp [appN]
def LnG (ts : List Tk) (least : Nat) (more : Bool) (D : Except Nat (List Int × Nat)) (acc : List Int) (i : Nat) : Prop :=
 (acc.length < least ∧ appN acc (linF ts (least - acc.length) more i) = D) ∨ (least ≤ acc.length ∧ more = true ∧ ∃ f, ts.length ≤ f + i ∧ appN acc (dimsT ts f i) = D) ∨ (least ≤ acc.length ∧ more = false ∧ D = .ok (acc, i))
theorem LnG.done {least : Nat} {more : Bool} {D : Except Nat (List Int × Nat)} {acc : List Int} {i : Nat} (hl : least ≤ acc.length) (h : appN acc (linF ts 0 more i) = D) : LnG ts least more D acc i := by
 have e : linF ts 0 more i = if more then appN [] (dimsT ts ts.length i) else .ok ([], i) := rfl
 rw [e] at h
 cases more with
 | false => exact .inr (.inr ⟨hl, rfl, by rw [← h]; simp [appN]⟩)
 | true =>
  refine .inr (.inl ⟨hl, rfl, ts.length, by omega, ?_⟩)
  rw [← h, if_pos rfl, appN_app, List.append_nil]
theorem LnG.start {least : Nat} {more : Bool} {i : Nat} : LnG ts least more (linF ts least more i) [] i := by
 have e : ∀ x : Except Nat (List Int × Nat), appN [] x = x := fun x => by cases x <;> simp [appN]
 cases least with
 | zero => exact LnG.done (Nat.le_refl _) (e _)
 | succ k => exact .inl ⟨by simp, e _⟩
theorem LnG.bad {least : Nat} {more : Bool} {D : Except Nat (List Int × Nat)} {acc : List Int} {i e : Nat} (h : LnG ts least more D acc i) (hi : i < ts.length) (hc : acc.length < least ∨ more = true ∧ (tk ts i).kind ≠ 4) (hn : numT ts i = .error e) : D = .error e := by
 rcases h with ⟨h1, h2⟩ | ⟨h1, h2, f, h3, h4⟩ | ⟨h1, h2, h3⟩
 ·rw [← h2]
  obtain ⟨k, hk⟩ : ∃ k, least - acc.length = k + 1 := ⟨least - acc.length - 1, by omega⟩
  rw [hk]
  unfold linF
  rw [numsT, hn]
  rfl
 ·rcases hc with c | ⟨_, c⟩
  ·omega
  rw [← h4]
  cases f with
  | zero => omega
  | succ f =>
   rw [dimsT, if_neg c, hn]
   rfl
 ·rcases hc with c | ⟨c, _⟩
  ·omega
  ·rw [h2] at c; cases c
theorem LnG.go {least : Nat} {more : Bool} {D : Except Nat (List Int × Nat)} {acc : List Int} {i j : Nat} {n : Int} (h : LnG ts least more D acc i) (hi : i < ts.length) (hc : acc.length < least ∨ more = true ∧ (tk ts i).kind ≠ 4) (hn : numT ts i = .ok (n, j)) : LnG ts least more D (acc ++ [n]) j := by
 have hij := num_up hn
 rcases h with ⟨h1, h2⟩ | ⟨h1, h2, f, h3, h4⟩ | ⟨h1, h2, h3⟩
 ·obtain ⟨k, hk⟩ : ∃ k, least - acc.length = k + 1 := ⟨least - acc.length - 1, by omega⟩
  rw [hk] at h2
  have e : linF ts (k + 1) more i = appN [n] (linF ts k more j) := by
   unfold linF
   rw [numsT, hn]
   dsimp only
   cases numsT ts k j with
   | error e => rfl
   | ok x =>
    obtain ⟨l, j'⟩ := x
    dsimp only
    cases more with
    | false => rfl
    | true =>
     rw [if_pos rfl, if_pos rfl, appN_app]
     rfl
  rw [e, appN_app] at h2
  by_cases hk0 : k = 0
  ·subst hk0
   exact LnG.done (by simp; omega) h2
  ·exact .inl ⟨by simp; omega, by rw [List.length_append, List.length_singleton, show least - (acc.length + 1) = k by omega]; exact h2⟩
 ·rcases hc with c | ⟨_, c⟩
  ·omega
  cases f with
  | zero => omega
  | succ f =>
   refine .inr (.inl ⟨by simp; omega, h2, f, by omega, ?_⟩)
   rw [← h4, dimsT, if_neg c, hn]
   dsimp only
   cases dimsT ts f j with
   | error e => rfl
   | ok x => simp [appN]
 ·rcases hc with c | ⟨c, _⟩
  ·omega
  ·rw [h2] at c; cases c
theorem LnG.stop {least : Nat} {more : Bool} {D : Except Nat (List Int × Nat)} {acc : List Int} {i : Nat} (h : LnG ts least more D acc i) (hi : i < ts.length) (h1 : least ≤ acc.length) (hc : more = true → (tk ts i).kind = 4) : D = .ok (acc, i) := by
 rcases h with ⟨h2, _⟩ | ⟨_, h2, f, h3, h4⟩ | ⟨_, h2, h3⟩
 ·omega
 ·rw [← h4]
  cases f with
  | zero => omega
  | succ f =>
   rw [dimsT, if_pos (hc h2)]
   simp [appN]
 ·exact h3
theorem num_err_lt (hE : Ends ts) {i e : Nat} (hi : i < ts.length) (h : numT ts i = .error e) : e < ts.length := by
 unfold numT at h
 split at h
 ·cases h
 ·injection h with h
  rw [← h]
  unfold digT
  split
  ·rename_i hm
   refine hE.more i hi ?_
   unfold minusT at hm
   simp only [Bool.and_eq_true, decide_eq_true_eq] at hm
   rw [hm.1]
   decide
  ·exact hi
theorem nums_err_lt (hE : Ends ts) : ∀ (k i : Nat) {e : Nat}, i < ts.length → numsT ts k i = .error e → e < ts.length
 | 0, i, e, hi, h => by rw [numsT] at h; cases h
 | k + 1, i, e, hi, h => by
  rw [numsT] at h
  split at h
  ·rename_i h1
   injection h with h
   exact h ▸ num_err_lt hE hi h1
  ·rename_i h1
   split at h
   ·rename_i h2
    injection h with h
    exact h ▸ nums_err_lt hE k _ (num_lt hE hi h1) h2
   ·cases h
theorem dims_err_lt (hE : Ends ts) : ∀ (f i : Nat) {e : Nat}, i < ts.length → dimsT ts f i = .error e → e < ts.length
 | 0, i, e, hi, h => by rw [dimsT] at h; cases h
 | f + 1, i, e, hi, h => by
  rw [dimsT] at h
  split at h
  ·cases h
  split at h
  ·rename_i h1
   injection h with h
   exact h ▸ num_err_lt hE hi h1
  ·rename_i h1
   split at h
   ·rename_i h2
    injection h with h
    exact h ▸ dims_err_lt hE f _ (num_lt hE hi h1) h2
   ·cases h
theorem line_err_lt (hE : Ends ts) {w : List UInt8} {i e : Nat} (hi : i < ts.length) (h : lineT ts w i = .error e) : e < ts.length := by
 unfold lineT at h
 split at h
 ·rename_i h1
  injection h with h
  exact h ▸ nums_err_lt hE _ _ hi h1
 ·rename_i h1
  split at h
  ·split at h
   ·rename_i h2
    injection h with h
    exact h ▸ dims_err_lt hE _ _ (nums_lt hE _ _ hi h1) h2
   ·cases h
  ·cases h
def sk (ts : List Tk) (i : Nat) : Nat := skipT ts ts.length i
theorem skip_fuel : ∀ (f g i : Nat), ts.length ≤ f + i → ts.length ≤ g + i → skipT ts f i = skipT ts g i := by
 intro f
 induction f with
 | zero =>
  intro g i h1 h2
  have hk : (tk ts i).kind = 5 := by
   unfold tk List.getD
   rw [List.getElem?_eq_none (by omega)]
   rfl
  cases g with
  | zero => rfl
  | succ g => rw [skipT, skipT, if_neg (by rw [hk]; decide)]
 | succ f ih =>
  intro g i h1 h2
  cases g with
  | zero =>
   have hk : (tk ts i).kind = 5 := by
    unfold tk List.getD
    rw [List.getElem?_eq_none (by omega)]
    rfl
   rw [skipT, skipT, if_neg (by rw [hk]; decide)]
  | succ g =>
   rw [skipT, skipT]
   split
   ·exact ih g (i + 1) (by omega) (by omega)
   ·rfl
theorem sk_line {i : Nat} (hi : i < ts.length) (hk : (tk ts i).kind = 4) : sk ts i = sk ts (i + 1) := by
 unfold sk
 rw [skip_fuel ts.length (ts.length + 1) i (by omega) (by omega), skipT, if_pos hk]
theorem sk_stay {i : Nat} (hk : (tk ts i).kind ≠ 4) : sk ts i = i := by
 unfold sk
 cases ts.length with
 | zero => rfl
 | succ n => rw [skipT, if_neg hk]
def RefG (ts : List Tk) (i : Nat) (d : Det) (m r : Bool) : Prop :=
 manyD d ≤ i ∧ ((m = false ∧ d = det0 ∧ r = false ∧ sk ts i = sk ts 0) ∨ (m = true ∧ ∃ D, LinG ts D ⟨sk ts i, d, r⟩ ∧ readT ts = linesR D))
theorem RefG.start : RefG ts 0 det0 false false := ⟨Nat.le_refl _, .inl ⟨rfl, rfl, rfl, rfl⟩⟩
theorem RefG.line {i : Nat} {d : Det} {m r : Bool} (h : RefG ts i d m r) (hi : i < ts.length) (hk : (tk ts i).kind = 4) : RefG ts (i + 1) d m r := by
 unfold RefG at h ⊢
 rw [sk_line hi hk] at h
 exact ⟨by have := h.1; omega, h.2⟩
theorem RefG.stop {i : Nat} {d : Det} {m r : Bool} (h : RefG ts i d m r) (hi : i < ts.length) (hk : (tk ts i).kind = 5) : readT ts = if m && r then .ok d else .error i := by
 have hs : sk ts i = i := sk_stay (by rw [hk]; decide)
 obtain ⟨_, ⟨rfl, rfl, rfl, h4⟩ | ⟨rfl, D, h1, h2⟩⟩ := h
 ·rw [hs] at h4
  have e0 : skipT ts ts.length 0 = i := h4.symm
  rw [readT_no (by rw [e0, hk]; rintro ⟨q, _⟩; cases q), e0]
  rfl
 ·rw [hs] at h1
  rw [h2, h1.stop hi hk]
  cases r <;> rfl
def wordR (t : Tk) (d : Det) (m r : Bool) : Bool := decide (t.kind = 1) && decide (0 < leastW t.text) && (m != decide (t.text = wMember)) && !(r && decide (t.text = wRule)) && !(decide (t.text = wStep) && d.dems.isEmpty)
theorem RefG.word {i : Nat} {d : Det} {m r : Bool} (h : RefG ts i d m r) (hi : i < ts.length) (h4 : (tk ts i).kind ≠ 4) (h5 : (tk ts i).kind ≠ 5) (hw : wordR (tk ts i) d m r = false) : readT ts = .error i := by
 have hs : sk ts i = i := sk_stay h4
 obtain ⟨_, ⟨rfl, rfl, rfl, hq⟩ | ⟨rfl, D, h1, h2⟩⟩ := h
 ·rw [hs] at hq
  have e0 : skipT ts ts.length 0 = i := hq.symm
  rw [readT_no (by
   rw [e0]
   rintro ⟨q1, q2⟩
   unfold wordR at hw
   rw [q1, q2] at hw
   exact absurd hw (by decide)), e0]
 ·rw [hs] at h1
  rw [h2, h1.bad hi h5 (e := i)]
  ·rfl
  unfold otherT
  rw [if_neg]
  unfold wordOk
  unfold wordR at hw
  intro q
  rw [show (true != decide ((tk ts i).text = wMember)) = !decide ((tk ts i).text = wMember) from by cases decide ((tk ts i).text = wMember) <;> rfl] at hw
  rw [hw] at q
  cases q
theorem RefG.read {i : Nat} {d : Det} {m r : Bool} (h : RefG ts i d m r) (hi : i < ts.length) (h4 : (tk ts i).kind ≠ 4) (h5 : (tk ts i).kind ≠ 5) (hw : wordR (tk ts i) d m r = true) :
  (∀ e, bodyT ts (tk ts i).text ⟨i, d, r⟩ = .error e → readT ts = .error e) ∧ (∀ s, bodyT ts (tk ts i).text ⟨i, d, r⟩ = .ok s → i < s.i → ∃ D, LinG ts D s ∧ readT ts = linesR D) := by
 have hs : sk ts i = i := sk_stay h4
 unfold wordR at hw
 simp only [Bool.and_eq_true, decide_eq_true_eq] at hw
 obtain ⟨⟨⟨⟨w1, w2⟩, w3⟩, w4⟩, w5⟩ := hw
 obtain ⟨hm, ⟨rfl, rfl, rfl, hq⟩ | ⟨rfl, D, h1, h2⟩⟩ := h
 ·rw [hs] at hq
  have e0 : skipT ts ts.length 0 = i := hq.symm
  have wm : (tk ts i).text = wMember := by simpa using w3
  have e := readT_yes (ts := ts) (by rw [e0]; exact ⟨w1, wm⟩)
  rw [e0] at e
  rw [wm, e]
  refine ⟨fun x hx => by rw [hx]; rfl, fun s hx _ => ⟨linesT ts ts.length s, ⟨ts.length, by omega, rfl⟩, by rw [hx]; rfl⟩⟩
 ·rw [hs] at h1
  have ho : otherT ts ⟨i, d, r⟩ = bodyT ts (tk ts i).text ⟨i, d, r⟩ := by
   unfold otherT
   rw [if_pos]
   unfold wordOk
   simp only [Bool.and_eq_true, decide_eq_true_eq]
   refine ⟨⟨⟨⟨w1, w2⟩, ?_⟩, w4⟩, w5⟩
   rw [show (true != decide ((tk ts i).text = wMember)) = !decide ((tk ts i).text = wMember) from by cases decide ((tk ts i).text = wMember) <;> rfl] at w3
   exact w3
  refine ⟨fun x hx => ?_, fun s hx hlt => ⟨D, h1.go hi h5 (ho.trans hx) hlt, h2⟩⟩
  rw [h2, h1.bad hi h5 (ho.trans hx)]
  rfl
def nameG (ts : List Tk) (w : List UInt8) (i : Nat) : Except Nat (List UInt8 × Nat) := if namedW w then nameT ts (i + 1) else .ok ([], i + 1)
theorem RefG.name {i : Nat} {d : Det} {m r : Bool} (h : RefG ts i d m r) (hi : i < ts.length) (h4 : (tk ts i).kind ≠ 4) (h5 : (tk ts i).kind ≠ 5) (hw : wordR (tk ts i) d m r = true) {e : Nat} (hn : nameG ts (tk ts i).text i = .error e) : readT ts = .error e := by
 refine (h.read hi h4 h5 hw).1 e ?_
 unfold nameG at hn
 unfold bodyT
 rw [hn]
theorem RefG.nums {i : Nat} {d : Det} {m r : Bool} (h : RefG ts i d m r) (hi : i < ts.length) (h4 : (tk ts i).kind ≠ 4) (h5 : (tk ts i).kind ≠ 5) (hw : wordR (tk ts i) d m r = true) {nm : List UInt8} {j e : Nat} (hn : nameG ts (tk ts i).text i = .ok (nm, j)) (hl : lineT ts (tk ts i).text j = .error e) : readT ts = .error e := by
 refine (h.read hi h4 h5 hw).1 e ?_
 unfold nameG at hn
 unfold bodyT
 rw [hn]
 dsimp only
 rw [hl]
theorem RefG.end_ {i : Nat} {d : Det} {m r : Bool} (h : RefG ts i d m r) (hi : i < ts.length) (h4 : (tk ts i).kind ≠ 4) (h5 : (tk ts i).kind ≠ 5) (hw : wordR (tk ts i) d m r = true) {nm : List UInt8} {j k : Nat} {n : List Int} (hn : nameG ts (tk ts i).text i = .ok (nm, j)) (hl : lineT ts (tk ts i).text j = .ok (n, k)) (he : (tk ts k).kind ≠ 4) : readT ts = .error k := by
 refine (h.read hi h4 h5 hw).1 k ?_
 unfold nameG at hn
 unfold bodyT
 rw [hn]
 dsimp only
 rw [hl]
 dsimp only
 unfold endT
 rw [if_neg he]
theorem RefG.next (hE : Ends ts) {i : Nat} {d : Det} {m r : Bool} (h : RefG ts i d m r) (hi : i < ts.length) (h4 : (tk ts i).kind ≠ 4) (h5 : (tk ts i).kind ≠ 5) (hw : wordR (tk ts i) d m r = true) {nm : List UInt8} {j k : Nat} {n : List Int} (hn : nameG ts (tk ts i).text i = .ok (nm, j)) (hl : lineT ts (tk ts i).text j = .ok (n, k)) (he : (tk ts k).kind = 4) : RefG ts k (putD d (tk ts i).text nm n) true (r || decide ((tk ts i).text = wRule)) ∧ i < k := by
 have hi1 := hE.more i hi h5
 have hj : i + 1 ≤ j ∧ j < ts.length := by
  unfold nameG at hn
  split at hn
  ·have := name_lt hE hi1 hn
   omega
  ·injection hn with hn
   injection hn with _ hn
   omega
 have hk := line_lt hE hj.2 hl
 have hb : bodyT ts (tk ts i).text ⟨i, d, r⟩ = .ok ⟨sk ts k, putD d (tk ts i).text nm n, r || decide ((tk ts i).text = wRule)⟩ := by
  unfold nameG at hn
  unfold bodyT
  rw [hn]
  dsimp only
  rw [hl]
  dsimp only
  unfold endT
  rw [if_pos he]
  rfl
 have hs := skip_lt hE ts.length k hk.2
 obtain ⟨D, q1, q2⟩ := (h.read hi h4 h5 hw).2 _ hb (by show i < skipT ts ts.length k; omega)
 have := putD_many d (tk ts i).text nm n
 have := h.1
 exact ⟨⟨by omega, .inr ⟨rfl, D, q1, q2⟩⟩, by omega⟩
end
end Go.Proofs.YtccakklnbhcbdaaGreatDoor
