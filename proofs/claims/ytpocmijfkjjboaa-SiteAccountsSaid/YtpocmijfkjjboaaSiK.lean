/- site: clones and comparisons of rows; Open, Entries. -/
import Derived.Test.YtpocmijfkjjboaaSiJ
import Derived.Shelf.SlicesE.Clone
import Derived.Ground.SlgnProg
import Derived.Shelf.Lay
set_option linter.unusedVariables false
namespace Go.Proofs.Ytpocmijfkjjboaa
open Go.ChangeShapes Go.WideShapes Go.ChangeAt Go.RowKit Go.Shelf

shelf_lay_g SlLaysE0.n41 Slgn 41 at Try 42 as Try.cloneEnt
shelf_lay_g SlLaysE0.n41 Slgn 41 at Try 41 as Try.cloneStr
noncomputable def enI : TypeInfo := (Try.prog.info? 35).get (by kernel_rfl)
noncomputable def stI : TypeInfo := (Try.prog.info? 9).get (by kernel_rfl)
theorem flat_len {α : Type} {enc : α → List Value} {sz : Nat} (henc : ∀ x, (enc x).length = sz) : ∀ (l : List α), (l.flatMap enc).length = l.length * sz
  | [] => by simp
  | x :: l => by rw [List.flatMap_cons, List.length_append, henc, flat_len henc l, List.length_cons, Nat.succ_mul]; omega
theorem RowAt.flat {α : Type} {enc : α → List Value} {sz B b off : Nat} {w : World} {l : List α} (h : RowAt enc sz B w (some ⟨b, off, none⟩) l) (henc : ∀ x, (enc x).length = sz) (hs : 0 < sz) (j : Nat) (u : Value) (hj : (l.flatMap enc)[j]? = some u) : w.cell? ⟨b, off + j, none⟩ = some u := by
  have hlt := (List.getElem?_eq_some_iff.1 hj).1
  rw [flat_len henc] at hlt
  have hk : j / sz < l.length := (Nat.div_lt_iff_lt_mul hs).2 hlt
  have hm : j % sz < sz := Nat.mod_lt _ hs
  have hd : j / sz * sz + j % sz = j := by rw [Nat.mul_comm]; exact Nat.div_add_mod j sz
  obtain ⟨b', off', e, _, hc⟩ := h (j / sz) hk
  simp only [Option.some.injEq, Addr.mk.injEq, and_true] at e
  obtain ⟨rfl, rfl⟩ := e
  have h2 := flat_at henc l (j / sz) hk (j % sz) hm
  rw [hd] at h2
  have := hc (j % sz) u (by rw [← h2]; exact hj)
  rwa [Nat.add_assoc, hd] at this

theorem cloneS_any (l : List ByteArray) (ao : Option Addr) (cap : Nat) (hl : l.length ≤ 100000) (hf : (ao = none ∧ l.length = 0) ∨ ∃ b off, ao = some ⟨b, off, none⟩) (B : Nat) (w : World) (ha : RowAt encS 1 B w ao l) :
    Calls Try.prog 41 #[.slice ao l.length cap] w fun e w' => (∃ v, e = .returned v ∧ Hid (w'.ownsRow w.heap.size 9 1 v l.length (l.flatMap encS))) ∧ Below w.heap.size w w' := by
  rcases hf with ⟨rfl, h0⟩ | ⟨b, off, rfl⟩
  · obtain rfl := List.length_eq_zero_iff.1 h0
    refine (AnyE.slices_Clone_nil Try.cloneStr 0 cap w).mono ?_
    rintro e w' ⟨rfl, rfl⟩
    exact ⟨⟨_, rfl, Lib.hid (World.ownsRow_nil _ _ _ _)⟩, Below.refl _ _⟩
  · refine (AnyE.slices_Clone Try.cloneStr stI (.string ⟨#[]⟩) 1 16 (by kernel_rfl) (by kernel_rfl) (by kernel_rfl) (by kernel_rfl) rfl (by decide) Try.sizeOf9 b off l.length cap (l.flatMap encS) w (flat_len encS_len l) (by unfold maxLen; omega) (by omega) (ha.flat encS_len (by decide)) ?_).mono ?_
    · intro u hu
      obtain ⟨x, _, hx⟩ := List.mem_flatMap.1 hu
      simp [encS] at hx
      subst hx; rfl
    · rintro e w' ⟨v, rfl, h1, h2, h3⟩
      exact ⟨⟨v, rfl, Lib.hid h1⟩, h3⟩

theorem cloneE_any (l : List Ent) (ao : Option Addr) (cap : Nat) (hl : l.length ≤ 100000) (hf : (ao = none ∧ l.length = 0) ∨ ∃ b off, ao = some ⟨b, off, none⟩) (B : Nat) (w : World) (ha : RowAt encE 3 B w ao l) :
    Calls Try.prog 42 #[.slice ao l.length cap] w fun e w' => (∃ v, e = .returned v ∧ Hid (w'.ownsRow w.heap.size 35 3 v l.length (l.flatMap encE))) ∧ Below w.heap.size w w' := by
  rcases hf with ⟨rfl, h0⟩ | ⟨b, off, rfl⟩
  · obtain rfl := List.length_eq_zero_iff.1 h0
    refine (AnyE.slices_Clone_nil Try.cloneEnt 0 cap w).mono ?_
    rintro e w' ⟨rfl, rfl⟩
    exact ⟨⟨_, rfl, Lib.hid (World.ownsRow_nil _ _ _ _)⟩, Below.refl _ _⟩
  · refine (AnyE.slices_Clone Try.cloneEnt enI (.agg #[.int .i64 0, .int .i64 0, .string ⟨#[]⟩]) 3 32 (by kernel_rfl) (by kernel_rfl) (by kernel_rfl) (by kernel_rfl) rfl (by decide) Try.sizeOf35 b off l.length cap (l.flatMap encE) w (flat_len encE_len l) (by unfold maxLen; omega) (by omega) (ha.flat encE_len (by decide)) ?_).mono ?_
    · intro u hu
      obtain ⟨x, _, hx⟩ := List.mem_flatMap.1 hu
      simp [encE] at hx
      rcases hx with rfl | rfl | rfl <;> rfl
    · rintro e w' ⟨v, rfl, h1, h2, h3⟩
      exact ⟨⟨v, rfl, Lib.hid h1⟩, h3⟩

set_option maxRecDepth 100000 in
theorem open_any (s : St) (hok : s.ok) (g : Nat) (p : SV) (w : World) (hs : SiteW w g s p) :
    Calls Try.prog 16 #[.pointer (some ⟨g, 0, none⟩)] w fun e w' => (∃ v, e = .returned v ∧ Hid (w'.ownsRow w.heap.size 9 1 v s.open_.length (s.open_.flatMap encS))) ∧ Below w.heap.size w w' := by
  obtain ⟨ao, cap, hvt, hl, hc, hrow, hf⟩ := hs.opn.view encS_len
  have hn : s.open_.length ≤ 100000 := by have := hok.openN; have := hok.keptN; omega
  have HC := Lib.hid (cloneS_any s.open_ ao cap hn (by rcases hf with ⟨h1, h2, _⟩ | ⟨g, h1, _⟩; exact .inl ⟨h1, h2⟩; exact .inr ⟨g, 0, h1⟩) _ w hrow)
  have z3 : w.cell? ⟨g, 3, none⟩ = some (.slice ao s.open_.length cap) := by
    have := hs.own.c 3
    rw [hvt] at this
    exact this
  generalize s.open_ = l at *
  generalize l.length = n at *
  generalize l.flatMap encS = xs at *
  clear hs hvt hrow hf hok
  go_enter Try.func16, Try.ntmps16
  go_wp2_with fail
  refine (HC.out).mono ?_
  rintro e w1 ⟨⟨v, rfl, ho⟩, HB⟩
  go_wp2_with fail
  go_ret
  exact ⟨⟨v, rfl, ho⟩, HB⟩

set_option maxRecDepth 100000 in
theorem entries_any (s : St) (hok : s.ok) (g : Nat) (p : SV) (w : World) (hs : SiteW w g s p) :
    Calls Try.prog 18 #[.pointer (some ⟨g, 0, none⟩)] w fun e w' => (∃ v, e = .returned v ∧ Hid (w'.ownsRow w.heap.size 35 3 v s.kept.length (s.kept.flatMap encE))) ∧ Below w.heap.size w w' := by
  obtain ⟨ao, cap, hvt, hl, hc, hrow, hf⟩ := hs.ents.view encE_len
  have hn : s.kept.length ≤ 100000 := by have := hok.openN; have := hok.keptN; omega
  have HC := Lib.hid (cloneE_any s.kept ao cap hn (by rcases hf with ⟨h1, h2, _⟩ | ⟨g, h1, _⟩; exact .inl ⟨h1, h2⟩; exact .inr ⟨g, 0, h1⟩) _ w hrow)
  have z3 : w.cell? ⟨g, 4, none⟩ = some (.slice ao s.kept.length cap) := by
    have := hs.own.c 4
    rw [hvt] at this
    exact this
  generalize s.kept = l at *
  generalize l.length = n at *
  generalize l.flatMap encE = xs at *
  clear hs hvt hrow hf hok
  go_enter Try.func18, Try.ntmps18
  go_wp2_with fail
  refine (HC.out).mono ?_
  rintro e w1 ⟨⟨v, rfl, ho⟩, HB⟩
  go_wp2_with fail
  go_ret
  exact ⟨⟨v, rfl, ho⟩, HB⟩

set_option maxRecDepth 100000 in
set_option maxHeartbeats 1000000 in
theorem eqE_any (l : List Ent) (a b : Option Addr) (ca cb : Nat) (hl : l.length ≤ 1000000) (h1 : l.length ≤ ca) (h2 : l.length ≤ cb) (w : World) (ta : Hid (RowAt encE 3 w.heap.size w a l)) (tb : Hid (RowAt encE 3 w.heap.size w b l)) :
    Calls Try.prog 19 #[.slice a l.length ca, .slice b l.length cb] w fun e w' => e = .returned (.bool true) ∧ Below w.heap.size w w' := by
  obtain ⟨n, hn⟩ : ∃ n, l.length = n := ⟨_, rfl⟩
  rw [hn] at hl h1 h2 ⊢
  replace hn := Lib.hid hn
  go_enter Try.func19, Try.ntmps19
  go_wp2_with fail
  go_loopg [13] n (fun g i wr => ∃ k : Nat, k ≤ n ∧ i = .int .i64 (k : Int) ∧ Hid (g = n - k) ∧ Below w.heap.size w wr ∧ Hid (RowAt encE 3 w.heap.size wr a l) ∧ Hid (RowAt encE 3 w.heap.size wr b l))
  case atStart => exact ⟨0, Nat.zero_le _, rfl, Lib.hid rfl, Below.refl _ _, ta, tb⟩
  case round =>
    clear ta tb
    obtain ⟨k, hk, rfl, hg, HB, ta, tb⟩ := hrel
    by_cases hlt : k < n
    · have hkl : Hid (k < l.length) := Lib.hid (by rw [hn.out]; exact hlt)
      obtain ⟨t, ht⟩ : ∃ t, l[k]'hkl.out = t := ⟨_, rfl⟩
      obtain ⟨ga, oa, rfl, a0, a1, a2, la⟩ := ta.out.ent k hkl.out
      obtain ⟨gb, ob, rfl, b0, b1, b2, lb⟩ := tb.out.ent k hkl.out
      rw [ht] at a0 a1 a2 b0 b1 b2
      replace ht := Lib.hid ht
      obtain ⟨td, tk, tn⟩ := t
      dsimp only at a0 a1 a2 b0 b1 b2
      clear la lb
      go_wp2_with fail
      go_quiet (fail)
      go_wp2_with fail
      go_roundg (n - (k + 1))
      case measure => have := hg.out; omega
      case rel => exact ⟨k + 1, by omega, by go_num, Lib.hid rfl, below_drewN HB _, ta, tb⟩
    · have e : k = n := by omega
      subst e
      go_wp2_with fail
      go_ret
      exact ⟨rfl, HB⟩
theorem getD_str {l : List ByteArray} {b off : Nat} {B : Nat} {w : World} (h : RowAt encS 1 B w (some ⟨b, off, none⟩) l) : ∀ j, j < l.length → w.cell? ⟨b, off + j, none⟩ = some (.string (l.getD j ByteArray.empty)) := by
  intro j hj
  obtain ⟨b', off', e, hc, _⟩ := h.one (f := fun s => .string s) j hj
  simp only [Option.some.injEq, Addr.mk.injEq, and_true] at e
  obtain ⟨rfl, rfl⟩ := e
  rw [hc]
  simp [List.getD, hj]
theorem eqS_any (l1 l2 : List ByteArray) (a1 a2 : Option Addr) (c1 c2 : Nat) (h1 : l1.length ≤ 1000000) (h2 : l2.length ≤ 1000000) (B1 B2 : Nat) (w : World) (r1 : RowAt encS 1 B1 w a1 l1) (r2 : RowAt encS 1 B2 w a2 l2) :
    Calls Try.prog 20 #[.slice a1 l1.length c1, .slice a2 l2.length c2] w fun e w' => e = .returned (.bool (decide (l1 = l2))) ∧ Below w.heap.size w w' := by
  by_cases e1 : l1.length = 0
  · obtain rfl := List.length_eq_zero_iff.1 e1
    refine (Try.slices_Equal_string_empty a1 a2 c1 l2.length c2 w (by omega)).mono ?_
    rintro e w' ⟨rfl, rfl⟩
    refine ⟨?_, Below.refl _ _⟩
    rw [show decide (l2.length = 0) = decide ([] = l2) from decide_eq_decide.2 (by rw [List.length_eq_zero_iff]; exact eq_comm)]
  · by_cases e2 : l1.length = l2.length
    · obtain ⟨b, off, rfl, _⟩ := r1 0 (by omega)
      obtain ⟨b', off', rfl, _⟩ := r2 0 (by omega)
      refine (Try.slices_Equal_string b off l1.length c1 b' off' l2.length c2 l1 l2 w (Nat.le_refl _) (Nat.le_refl _) (by omega) (by omega) (getD_str r1) (getD_str r2)).mono ?_
      rintro e w' ⟨rfl, q, rfl⟩
      refine ⟨?_, below_drewN (Below.refl _ _) _⟩
      rw [List.take_length, List.take_length]
    · refine (Try.slices_Equal_string_lens a1 a2 l1.length c1 l2.length c2 w e2).mono ?_
      rintro e w' ⟨rfl, rfl⟩
      refine ⟨?_, Below.refl _ _⟩
      rw [decide_eq_false (fun h => e2 (by rw [h]))]

end Go.Proofs.Ytpocmijfkjjboaa
