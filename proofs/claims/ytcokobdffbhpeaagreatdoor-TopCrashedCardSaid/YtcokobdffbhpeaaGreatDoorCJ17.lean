/- Plain: journals: sums, records, the good records of some bytes. -/
import Derived.Test.YtcokobdffbhpeaaGreatDoorCJ06
import Derived.Test.YtcokobdffbhpeaaGreatDoorCJ16
set_option linter.unusedVariables false
namespace Go.Proofs.YtcokobdffbhpeaaGreatDoor
open Go.ChangeShapes Go.WideShapes Go.ChangeAt Go.RowKit
open Go.Lib (decDigits itoa atoiAll itoa_nonneg)
def sumF (s : Nat) (b : List UInt8) : Nat := b.foldl (fun s c => (31 * s + c.toNat + 1) % 4294967296) s
theorem sumF_nil (s : Nat) : sumF s [] = s := rfl
theorem sumF_cons (s : Nat) (c : UInt8) (b : List UInt8) : sumF s (c :: b) = sumF ((31 * s + c.toNat + 1) % 4294967296) b := rfl
theorem sumF_app (s : Nat) (a b : List UInt8) : sumF s (a ++ b) = sumF (sumF s a) b := List.foldl_append ..
theorem sumF_lt : ∀ (b : List UInt8) (s : Nat), s < 4294967296 → sumF s b < 4294967296
  | [], s, h => h
  | c :: b, s, h => sumF_lt b _ (Nat.mod_lt _ (by decide))
theorem sumF_inj : ∀ (b : List UInt8) (s t : Nat), s < 4294967296 → t < 4294967296 → sumF s b = sumF t b → s = t
  | [], s, t, _, _, h => h
  | c :: b, s, t, hs, ht, h => by
    have := sumF_inj b _ _ (Nat.mod_lt _ (by decide)) (Nat.mod_lt _ (by decide)) h
    omega
theorem sumF_chg {s : Nat} (u v : List UInt8) (a a' : UInt8) (h : sumF s (u ++ a :: v) = sumF s (u ++ a' :: v)) : a = a' := by
  rw [sumF_app, sumF_app, sumF_cons, sumF_cons] at h
  have := sumF_inj v _ _ (Nat.mod_lt _ (by decide)) (Nat.mod_lt _ (by decide)) h
  have h1 := a.toNat_lt
  have h2 := a'.toNat_lt
  apply UInt8.toNat_inj.1
  omega
abbrev sumB (b : List UInt8) : Nat := sumF 7 b
theorem sumB_lt (b : List UInt8) : sumB b < 4294967296 := sumF_lt b 7 (by decide)
def intO (l : List UInt8) : Option Nat := if l.length ≤ 15 ∧ decDigits (numV l) = l then some (numV l) else none
theorem intO_iff {l : List UInt8} {n : Nat} : intO l = some n ↔ l.length ≤ 15 ∧ l = decDigits n := by
  unfold intO
  constructor
  · intro h
    split at h
    · rename_i q
      injection h with h
      subst h
      exact ⟨q.1, q.2.symm⟩
    · cases h
  · rintro ⟨h1, rfl⟩
    rw [numV_dec, if_pos ⟨h1, rfl⟩]
theorem dec_inj {n m : Nat} (h : decDigits n = decDigits m) : n = m := by rw [← numV_dec n, h, numV_dec]
theorem dec_lt {n : Nat} (h : (decDigits n).length ≤ 15) : n < 1000000000000000 := by
  have h1 := numV_lt _ (decDigits n) rfl (dec_dig n).1
  rw [numV_dec] at h1
  have h2 : 10 ^ (decDigits n).length ≤ 10 ^ 15 := Nat.pow_le_pow_right (by decide) h
  omega
theorem dec_le10 {n : Nat} (h : n < 4294967296) : (decDigits n).length ≤ 10 := dec_len19 9 n (by omega)
theorem intO_atoi (l : List UInt8) {n : Int} (h : atoiAll l = .ok n) : (intO l).isSome = (decide (0 ≤ n) && decide (l.length ≤ 15) && decide (itoa n = l)) ∧ ((intO l).isSome = true → intO l = some n.toNat) := by
  have key : ∀ m, intO l = some m → n = (m : Int) := fun m hm => by
    obtain ⟨h1, rfl⟩ := intO_iff.1 hm
    have := dec_lt h1
    rw [atoi_dec m (by omega)] at h
    injection h with h
    exact h.symm
  constructor
  · rw [Bool.eq_iff_iff]
    simp only [Bool.and_eq_true, decide_eq_true_eq]
    constructor
    · intro hs
      obtain ⟨m, hm⟩ := Option.isSome_iff_exists.1 hs
      obtain rfl := key m hm
      obtain ⟨h1, h2⟩ := intO_iff.1 hm
      exact ⟨⟨by omega, h1⟩, by rw [itoa_nonneg]; exact h2.symm⟩
    · rintro ⟨⟨h1, h2⟩, h3⟩
      rw [intO_iff.2 ⟨h2, show l = decDigits n.toNat by rw [← h3, ← itoa_nonneg, Int.toNat_of_nonneg h1]⟩]
      rfl
  · intro hs
    obtain ⟨m, hm⟩ := Option.isSome_iff_exists.1 hs
    rw [hm, key m hm]
    rfl
theorem intO_bad {l : List UInt8} (h : ∀ v, atoiAll l ≠ .ok v) : intO l = none := by
  cases hm : intO l with
  | none => rfl
  | some m =>
    obtain ⟨h1, rfl⟩ := intO_iff.1 hm
    have := dec_lt h1
    exact absurd (atoi_dec m (by omega)) (h _)
def lineE (x : Ent) : List UInt8 := itoa x.day ++ 32 :: (itoa x.kind ++ 32 :: (by_ x.name ++ [32]))
def recE (p : List UInt8) (x : Ent) : List UInt8 := lineE x ++ (decDigits (sumF (sumB p) (lineE x)) ++ [10])
def encF (p : List UInt8) : List Ent → List UInt8
  | [] => p
  | x :: l => encF (p ++ recE p x) l
abbrev encJ (l : List Ent) : List UInt8 := encF [] l
theorem encF_snoc : ∀ (l : List Ent) (p : List UInt8) (x : Ent), encF p (l ++ [x]) = encF p l ++ recE (encF p l) x
  | [], p, x => rfl
  | y :: l, p, x => encF_snoc l _ x
theorem encF_pre : ∀ (l : List Ent) (p : List UInt8), ∃ t, encF p l = p ++ t
  | [], p => ⟨[], by simp [encF]⟩
  | y :: l, p => by
    obtain ⟨t, ht⟩ := encF_pre l (p ++ recE p y)
    exact ⟨recE p y ++ t, by rw [encF, ht, List.append_assoc]⟩
theorem encF_app : ∀ (l m : List Ent) (p : List UInt8), encF p (l ++ m) = encF (encF p l) m
  | [], m, p => rfl
  | y :: l, m, p => encF_app l m _
def noB (c : UInt8) (l : List UInt8) : Prop := ∀ b ∈ l, b ≠ c
theorem noB_nil (c : UInt8) : noB c [] := fun _ h => by cases h
theorem noB_app {c : UInt8} {a b : List UInt8} : noB c (a ++ b) ↔ noB c a ∧ noB c b := by
  unfold noB
  constructor
  · exact fun h => ⟨fun x hx => h x (List.mem_append_left _ hx), fun x hx => h x (List.mem_append_right _ hx)⟩
  · rintro ⟨h1, h2⟩ x hx
    rcases List.mem_append.1 hx with q | q
    · exact h1 x q
    · exact h2 x q
theorem noB_cons {c b : UInt8} {l : List UInt8} : noB c (b :: l) ↔ b ≠ c ∧ noB c l := by
  unfold noB
  simp
theorem part_uniq {c : UInt8} : ∀ {a b u v : List UInt8}, noB c a → noB c b → a ++ c :: u = b ++ c :: v → a = b ∧ u = v
  | [], [], u, v, _, _, h => by simpa using h
  | [], y :: b, u, v, _, hb, h => by
    simp only [List.nil_append, List.cons_append, List.cons.injEq] at h
    exact absurd h.1.symm (noB_cons.1 hb).1
  | x :: a, [], u, v, ha, _, h => by
    simp only [List.nil_append, List.cons_append, List.cons.injEq] at h
    exact absurd h.1 (noB_cons.1 ha).1
  | x :: a, y :: b, u, v, ha, hb, h => by
    simp only [List.cons_append, List.cons.injEq] at h
    obtain ⟨rfl, h⟩ := h
    obtain ⟨h1, h2⟩ := part_uniq (noB_cons.1 ha).2 (noB_cons.1 hb).2 h
    exact ⟨by rw [h1], h2⟩
theorem dec_noB {c : UInt8} (hc : c.toNat < 48) (n : Nat) : noB c (decDigits n) := by
  intro b hb
  have := digB_bd (List.all_eq_true.1 (dec_dig n).1 b hb)
  rintro rfl
  omega
theorem name_noB {l : List UInt8} (h : nameB l = true) : noB 32 l ∧ noB 10 l := by
  unfold nameB at h
  simp only [Bool.and_eq_true, decide_eq_true_eq] at h
  have hw := h.2
  have e0 : l.takeWhile isWrd = l := (List.takeWhile_prefix isWrd).eq_of_length hw
  have hall := List.all_takeWhile (p := isWrd) (l := l)
  rw [e0] at hall
  have : ∀ b ∈ l, isWrd b = true := fun b hb => List.all_eq_true.1 hall b hb
  constructor
  · intro b hb e
    have := this b hb
    rw [e] at this
    exact absurd this (by decide)
  · intro b hb e
    have := this b hb
    rw [e] at this
    exact absurd this (by decide)
structure WordsOk (x : Ent) : Prop where
  d0 : 0 ≤ x.day
  k0 : 0 ≤ x.kind
  dl : (itoa x.day).length ≤ 15
  kl : (itoa x.kind).length ≤ 15
  nm : nameB (by_ x.name) = true
theorem WordsOk.dayE {x : Ent} (h : WordsOk x) : itoa x.day = decDigits x.day.toNat := by
  have := itoa_nonneg x.day.toNat
  rwa [Int.toNat_of_nonneg h.d0] at this
theorem WordsOk.kindE {x : Ent} (h : WordsOk x) : itoa x.kind = decDigits x.kind.toNat := by
  have := itoa_nonneg x.kind.toNat
  rwa [Int.toNat_of_nonneg h.k0] at this
theorem WordsOk.of {x : Ent} (h : entOk x = true) : WordsOk x := by
  unfold entOk at h
  simp only [Bool.and_eq_true, decide_eq_true_eq] at h
  obtain ⟨⟨⟨⟨h1, h2⟩, h3⟩, h4⟩, h5⟩ := h
  have e1 := itoa_nonneg x.day.toNat
  have e2 := itoa_nonneg x.kind.toNat
  rw [Int.toNat_of_nonneg h1] at e1
  rw [Int.toNat_of_nonneg (by omega)] at e2
  refine ⟨h1, by omega, ?_, ?_, h5⟩
  · rw [e1]; have := dec_len19 9 x.day.toNat (by omega); omega
  · rw [e2]; have := dec_len19 9 x.kind.toNat (by omega); omega
theorem line_noB {x : Ent} (h : WordsOk x) : noB 10 (lineE x) := by
  unfold lineE
  rw [noB_app, noB_cons, noB_app, noB_cons, noB_app, noB_cons, h.dayE, h.kindE]
  exact ⟨dec_noB (by decide) _, by decide, dec_noB (by decide) _, by decide, (name_noB h.nm).2, by decide, noB_nil _⟩
def splitB (c : UInt8) : List UInt8 → List (List UInt8)
  | [] => [[]]
  | b :: l => if b = c then [] :: splitB c l else match splitB c l with | w :: ws => (b :: w) :: ws | [] => [[b]]
theorem splitB_ne (c : UInt8) (l : List UInt8) : splitB c l ≠ [] := by
  cases l with
  | nil => simp [splitB]
  | cons b l => unfold splitB; split; simp; split <;> simp
theorem splitB_no {c : UInt8} : ∀ {l : List UInt8}, noB c l → splitB c l = [l]
  | [], _ => rfl
  | b :: l, h => by
    unfold splitB
    rw [if_neg (noB_cons.1 h).1, splitB_no (noB_cons.1 h).2]
theorem splitB_at {c : UInt8} : ∀ {a : List UInt8} (l : List UInt8), noB c a → splitB c (a ++ c :: l) = a :: splitB c l
  | [], l, _ => by
    show splitB c (c :: l) = _
    rw [splitB, if_pos rfl]
  | b :: a, l, h => by
    show splitB c (b :: (a ++ c :: l)) = _
    rw [splitB.eq_2, if_neg (noB_cons.1 h).1, splitB_at l (noB_cons.1 h).2]
theorem splitB_back {c : UInt8} : ∀ {l a : List UInt8} {ws : List (List UInt8)}, splitB c l = a :: ws → noB c a ∧ ((ws = [] ∧ l = a) ∨ ∃ r, ws = splitB c r ∧ l = a ++ c :: r)
  | [], a, ws, h => by
    simp only [splitB, List.cons.injEq] at h
    obtain ⟨rfl, rfl⟩ := h
    exact ⟨noB_nil _, .inl ⟨rfl, rfl⟩⟩
  | b :: l, a, ws, h => by
    unfold splitB at h
    split at h
    · rename_i hb
      simp only [List.cons.injEq] at h
      obtain ⟨rfl, rfl⟩ := h
      exact ⟨noB_nil _, .inr ⟨l, rfl, by rw [hb]; rfl⟩⟩
    · rename_i hb
      split at h
      · rename_i w ws' hs
        simp only [List.cons.injEq] at h
        obtain ⟨rfl, rfl⟩ := h
        obtain ⟨h1, h2⟩ := splitB_back hs
        refine ⟨noB_cons.2 ⟨hb, h1⟩, ?_⟩
        rcases h2 with ⟨q1, q2⟩ | ⟨r, q1, q2⟩
        · exact .inl ⟨q1, by rw [q2]⟩
        · exact .inr ⟨r, q1, by rw [q2]; rfl⟩
      · rename_i hs
        exact absurd hs (splitB_ne _ _)
def cutN (b : List UInt8) : Option (List UInt8) := if b.findIdx (· == 10) < b.length then some (b.take (b.findIdx (· == 10))) else none
def readO (l : List UInt8) : Option (Ent × Nat) :=
  match splitB 32 l with
  | [a, b, c, d] => if nameB c then match intO a, intO b, intO d with | some x, some y, some z => some (⟨x, y, ⟨c.toArray⟩⟩, z) | _, _, _ => none else none
  | _ => none
def entO (b : List UInt8) : Option (Ent × Nat × Nat) :=
  match cutN b with
  | some l => match readO l with | some (x, s) => some (x, s, l.length + 1) | none => none
  | none => none
theorem cutN_iff {b l : List UInt8} : cutN b = some l ↔ noB 10 l ∧ ∃ r, b = l ++ 10 :: r := by
  unfold cutN
  constructor
  · intro h
    split at h
    · rename_i hlt
      injection h with h
      subst h
      refine ⟨?_, b.drop (b.findIdx (· == 10) + 1), ?_⟩
      · intro x hx
        rw [List.mem_take_iff_getElem] at hx
        obtain ⟨i, hi, rfl⟩ := hx
        have := List.not_of_lt_findIdx (p := (· == (10 : UInt8))) (xs := b) (i := i) (by omega)
        simpa using this
      · have h1 : b[b.findIdx (· == 10)] = 10 := by
          have := List.findIdx_getElem (p := (· == (10 : UInt8))) (xs := b) (w := hlt)
          simpa using this
        have h2 := List.take_append_drop (b.findIdx (· == 10)) b
        rw [List.drop_eq_getElem_cons hlt, h1] at h2
        exact h2.symm
    · cases h
  · rintro ⟨h1, r, rfl⟩
    have hi : (l ++ 10 :: r).findIdx (· == 10) = l.length := by
      rw [List.findIdx_eq (by simp)]
      refine ⟨by simp, fun j hj => ?_⟩
      rw [List.getElem_append_left hj]
      have := h1 _ (List.getElem_mem hj)
      simpa using this
    rw [hi, if_pos (by simp)]
    simp
theorem cutN_none {b : List UInt8} (h : noB 10 b) : cutN b = none := by
  unfold cutN
  rw [if_neg]
  intro hlt
  have := List.findIdx_getElem (p := (· == (10 : UInt8))) (xs := b) (w := hlt)
  exact h _ (List.getElem_mem hlt) (by simpa using this)
theorem readO_iff {l : List UInt8} {x : Ent} {s : Nat} : readO l = some (x, s) ↔ l = lineE x ++ decDigits s ∧ WordsOk x ∧ (decDigits s).length ≤ 15 := by
  constructor
  · intro h
    unfold readO at h
    split at h
    · rename_i a b c d hs
      split at h
      · rename_i hn
        split at h
        · rename_i p q r hp hq hr
          injection h with h
          simp only [Prod.mk.injEq] at h
          obtain ⟨rfl, rfl⟩ := h
          obtain ⟨p1, rfl⟩ := intO_iff.1 hp
          obtain ⟨q1, rfl⟩ := intO_iff.1 hq
          obtain ⟨r1, rfl⟩ := intO_iff.1 hr
          obtain ⟨_, ⟨h1, _⟩ | ⟨r1', h1, rfl⟩⟩ := splitB_back hs
          · cases h1
          obtain ⟨_, ⟨h2, _⟩ | ⟨r2', h2, rfl⟩⟩ := splitB_back h1.symm
          · cases h2
          obtain ⟨_, ⟨h3, _⟩ | ⟨r3', h3, rfl⟩⟩ := splitB_back h2.symm
          · cases h3
          obtain ⟨_, ⟨_, rfl⟩ | ⟨r4', h4, _⟩⟩ := splitB_back h3.symm
          · refine ⟨?_, ⟨by simp, by simp, ?_, ?_, ?_⟩, r1⟩
            · unfold lineE
              simp [itoa_nonneg]
            · rw [itoa_nonneg]; exact p1
            · rw [itoa_nonneg]; exact q1
            · simpa using hn
          · exact absurd h4.symm (splitB_ne _ _)
        · cases h
      · cases h
    · cases h
  · rintro ⟨rfl, hw, hl⟩
    have e : lineE x ++ decDigits s = decDigits x.day.toNat ++ 32 :: (decDigits x.kind.toNat ++ 32 :: (by_ x.name ++ 32 :: decDigits s)) := by
      unfold lineE
      rw [hw.dayE, hw.kindE]
      simp
    unfold readO
    rw [e, splitB_at _ (dec_noB (by decide) _), splitB_at _ (dec_noB (by decide) _), splitB_at _ (name_noB hw.nm).1, splitB_no (dec_noB (by decide) _)]
    have i1 : intO (decDigits x.day.toNat) = some x.day.toNat := intO_iff.2 ⟨by rw [← hw.dayE]; exact hw.dl, rfl⟩
    have i2 : intO (decDigits x.kind.toNat) = some x.kind.toNat := intO_iff.2 ⟨by rw [← hw.kindE]; exact hw.kl, rfl⟩
    have i3 : intO (decDigits s) = some s := intO_iff.2 ⟨hl, rfl⟩
    have n1 := hw.d0
    have n2 := hw.k0
    simp only [hw.nm, i1, i2, i3, if_true, Int.toNat_of_nonneg n1, Int.toNat_of_nonneg n2]
theorem entO_iff {b : List UInt8} {x : Ent} {s n : Nat} : entO b = some (x, s, n) ↔ n = (lineE x ++ decDigits s).length + 1 ∧ (∃ r, b = lineE x ++ (decDigits s ++ 10 :: r)) ∧ WordsOk x ∧ (decDigits s).length ≤ 15 := by
  unfold entO
  constructor
  · intro h
    split at h
    · rename_i l hc
      split at h
      · rename_i y t hr
        injection h with h
        simp only [Prod.mk.injEq] at h
        obtain ⟨rfl, rfl, rfl⟩ := h
        obtain ⟨h1, r, rfl⟩ := cutN_iff.1 hc
        obtain ⟨rfl, hw, hl⟩ := readO_iff.1 hr
        exact ⟨rfl, ⟨r, by simp⟩, hw, hl⟩
      · cases h
    · cases h
  · rintro ⟨rfl, ⟨r, rfl⟩, hw, hl⟩
    have hc : cutN (lineE x ++ (decDigits s ++ 10 :: r)) = some (lineE x ++ decDigits s) := cutN_iff.2 ⟨noB_app.2 ⟨line_noB hw, dec_noB (by decide) _⟩, r, by simp⟩
    have hr := readO_iff.2 ⟨rfl, hw, hl⟩
    simp only [hc, hr]
theorem entO_none {b : List UInt8} (h : noB 10 b) : entO b = none := by
  unfold entO
  rw [cutN_none h]
def nextJ (p : List UInt8) (l : List Ent) (r : List UInt8) : Except Int (Ent × Nat) :=
  match entO r with
  | none => .error 7
  | some (x, s, n) => if s ≠ sumF (sumB p) (lineE x) then .error 18 else if logV (l ++ [x]) = false then .error 1 else .ok (x, n)
theorem nextJ_err {p r : List UInt8} {l : List Ent} {e : Int} (h : nextJ p l r = .error e) : e ≠ 0 := by
  unfold nextJ at h
  split at h
  · cases h; decide
  · split at h
    · cases h; decide
    · split at h
      · cases h; decide
      · cases h
theorem nextJ_ok {p r : List UInt8} {l : List Ent} {x : Ent} {n : Nat} (h : nextJ p l r = .ok (x, n)) : n = (recE p x).length ∧ (∃ t, r = recE p x ++ t) ∧ WordsOk x ∧ logV (l ++ [x]) = true := by
  unfold nextJ at h
  split at h
  · cases h
  · rename_i y s m he
    split at h
    · cases h
    · rename_i hs
      split at h
      · cases h
      · rename_i hv
        injection h with h
        simp only [Prod.mk.injEq] at h
        obtain ⟨rfl, rfl⟩ := h
        obtain ⟨rfl, ⟨t, rfl⟩, hw, _⟩ := entO_iff.1 he
        have hs' : s = sumF (sumB p) (lineE y) := Classical.not_not.1 hs
        subst hs'
        refine ⟨?_, ⟨t, ?_⟩, hw, by simpa using hv⟩
        · unfold recE; simp; omega
        · unfold recE; simp
theorem nextJ_rec {p : List UInt8} {l : List Ent} {x : Ent} (t : List UInt8) (hw : WordsOk x) (h : logV (l ++ [x]) = true) : nextJ p l (recE p x ++ t) = .ok (x, (recE p x).length) := by
  have he : entO (recE p x ++ t) = some (x, sumF (sumB p) (lineE x), (recE p x).length) := entO_iff.2 ⟨by unfold recE; simp; omega, ⟨t, by unfold recE; simp⟩, hw, by
    have := dec_le10 (sumF_lt (lineE x) (sumB p) (sumB_lt p))
    omega⟩
  unfold nextJ
  simp only [he]
  rw [if_neg (by simp), if_neg (by simp [h])]
theorem logV_pre {l m : List Ent} (h : logV (l ++ m) = true) : logV l = true := by
  unfold logV at h ⊢
  simp only [Bool.and_eq_true, decide_eq_true_eq, List.length_append, List.all_append, List.pairwise_append] at h ⊢
  exact ⟨⟨by omega, h.1.2.1⟩, h.2.1⟩
theorem logV_ent {l : List Ent} (h : logV l = true) {x : Ent} (hx : x ∈ l) : entOk x = true := by
  unfold logV at h
  simp only [Bool.and_eq_true] at h
  exact List.all_eq_true.1 h.1.2 x hx
def goodF : Nat → List UInt8 → Nat → List Ent → List Ent × Nat × Int
  | 0, _, at_, l => (l, at_, 0)
  | f + 1, b, at_, l => if at_ < b.length then match nextJ (b.take at_) l (b.drop at_) with | .ok (x, n) => goodF f b (at_ + n) (l ++ [x]) | .error e => (l, at_, e) else (l, at_, 0)
abbrev goodJ (b : List UInt8) : List Ent × Nat × Int := goodF b.length b 0 []
def StopJ (l : List Ent) (t : List UInt8) (e : Int) : Prop := (t = [] ∧ e = 0) ∨ (t ≠ [] ∧ nextJ (encJ l) l t = .error e)
theorem rec_pos (p : List UInt8) (x : Ent) : 1 ≤ (recE p x).length := by unfold recE; simp; omega
theorem goodF_to : ∀ (f : Nat) (l : List Ent) (t : List UInt8), logV l = true → t.length ≤ f → ∃ m t' e, goodF f (encJ l ++ t) (encJ l).length l = (l ++ m, (encJ (l ++ m)).length, e) ∧ encJ l ++ t = encJ (l ++ m) ++ t' ∧ logV (l ++ m) = true ∧ StopJ (l ++ m) t' e
  | 0, l, t, hv, hf => by
    obtain rfl := List.length_eq_zero_iff.1 (Nat.le_zero.1 hf)
    exact ⟨[], [], 0, by simp [goodF], by simp, by simpa using hv, .inl ⟨rfl, rfl⟩⟩
  | f + 1, l, t, hv, hf => by
    unfold goodF
    by_cases ht : t = []
    · subst ht
      rw [if_neg (by simp)]
      exact ⟨[], [], 0, by simp, by simp, by simpa using hv, .inl ⟨rfl, rfl⟩⟩
    · have h1 : 1 ≤ t.length := List.length_pos_iff.2 ht
      rw [if_pos (by simp; omega), List.take_left, List.drop_left]
      cases hn : nextJ (encJ l) l t with
      | error e =>
        exact ⟨[], t, e, by simp, by simp, by simpa using hv, .inr ⟨ht, by simpa using hn⟩⟩
      | ok r =>
        obtain ⟨x, n⟩ := r
        obtain ⟨rfl, ⟨u, rfl⟩, hw, hv2⟩ := nextJ_ok hn
        have hp := rec_pos (encJ l) x
        obtain ⟨m, t', e, g1, g2, g3, g4⟩ := goodF_to f (l ++ [x]) u hv2 (by simp at hf; omega)
        have e1 : encJ (l ++ [x]) ++ u = encJ l ++ (recE (encJ l) x ++ u) := by
          show encF [] (l ++ [x]) ++ u = _
          rw [encF_snoc, List.append_assoc]
        have e2 : (encJ (l ++ [x])).length = (encJ l).length + (recE (encJ l) x).length := by
          show (encF [] (l ++ [x])).length = _
          rw [encF_snoc, List.length_append]
        rw [e1, e2] at g1
        refine ⟨x :: m, t', e, ?_, ?_, ?_, ?_⟩
        · simp only
          rw [g1]
          simp
        · rw [← e1, g2]; simp
        · simpa using g3
        · simpa using g4
theorem goodF_of : ∀ (f : Nat) (m l : List Ent) (t : List UInt8) (e : Int), logV (l ++ m) = true → StopJ (l ++ m) t e → (encJ (l ++ m)).length + t.length ≤ f + (encJ l).length → goodF f (encJ (l ++ m) ++ t) (encJ l).length l = (l ++ m, (encJ (l ++ m)).length, e)
  | 0, m, l, t, e, hv, hs, hf => by
    cases m with
    | nil =>
      simp only [List.append_nil] at hs hf ⊢
      obtain rfl := List.length_eq_zero_iff.1 (show t.length = 0 by omega)
      rcases hs with ⟨_, rfl⟩ | ⟨h, _⟩
      · rfl
      · exact absurd rfl h
    | cons x m =>
      exfalso
      obtain ⟨u, hu⟩ := encF_pre m (encF [] (l ++ [x]))
      have : encJ (l ++ x :: m) = encF (encF [] (l ++ [x])) m := by
        show encF [] (l ++ x :: m) = _
        rw [← encF_app]
        simp
      rw [this, hu, encF_snoc] at hf
      have := rec_pos (encF [] l) x
      simp only [List.length_append] at hf
      have : (encJ l).length = (encF [] l).length := rfl
      omega
  | f + 1, m, l, t, e, hv, hs, hf => by
    unfold goodF
    cases m with
    | nil =>
      simp only [List.append_nil] at hs hf ⊢
      rcases hs with ⟨rfl, rfl⟩ | ⟨h, hn⟩
      · rw [if_neg (by simp)]
      · have h1 : 1 ≤ t.length := List.length_pos_iff.2 h
        rw [if_pos (by simp; omega), List.take_left, List.drop_left]
        simp only [hn]
    | cons x m =>
      obtain ⟨u, hu⟩ := encF_pre m (encF [] (l ++ [x]))
      have e0 : encJ (l ++ x :: m) = encJ l ++ (recE (encJ l) x ++ u) := by
        show encF [] (l ++ x :: m) = _
        have : encF [] (l ++ x :: m) = encF (encF [] (l ++ [x])) m := by rw [← encF_app]; simp
        rw [this, hu, encF_snoc, List.append_assoc]
      have hv' : logV (l ++ [x]) = true := logV_pre (m := m) (by simpa using hv)
      have hw : WordsOk x := WordsOk.of (logV_ent hv' (by simp))
      have hp := rec_pos (encJ l) x
      have e2 : (encJ (l ++ [x])).length = (encJ l).length + (recE (encJ l) x).length := by
        show (encF [] (l ++ [x])).length = _
        rw [encF_snoc, List.length_append]
      have e3 : l ++ x :: m = (l ++ [x]) ++ m := by simp
      rw [if_pos (by rw [e0]; simp; omega)]
      have e4 : (encJ (l ++ x :: m) ++ t).take (encJ l).length = encJ l := by rw [e0, List.append_assoc, List.take_left]
      have e5 : (encJ (l ++ x :: m) ++ t).drop (encJ l).length = recE (encJ l) x ++ (u ++ t) := by rw [e0, List.append_assoc, List.drop_left, List.append_assoc]
      rw [e4, e5, nextJ_rec _ hw hv']
      simp only
      rw [← e2, e3]
      exact goodF_of f m (l ++ [x]) t e (by rw [← e3]; exact hv) (by rw [← e3]; exact hs) (by rw [← e3]; omega)
theorem goodJ_to (b : List UInt8) : ∃ l t e, goodJ b = (l, (encJ l).length, e) ∧ b = encJ l ++ t ∧ logV l = true ∧ StopJ l t e := by
  obtain ⟨m, t, e, h1, h2, h3, h4⟩ := goodF_to b.length [] b rfl (Nat.le_refl _)
  exact ⟨m, t, e, h1, h2, h3, h4⟩
theorem goodJ_of {l : List Ent} {t : List UInt8} {e : Int} (hv : logV l = true) (hs : StopJ l t e) : goodJ (encJ l ++ t) = (l, (encJ l).length, e) :=
  goodF_of (encJ l ++ t).length l [] t e hv hs (by simp)
end Go.Proofs.YtcokobdffbhpeaaGreatDoor
