/- SiteChecks: a site beside the law's own slice of open checks. -/
import Derived.Test.YtpocmijfkjjboaaSjK
import Derived.Test.YtpocmijfkjjboaaSjJ
import Derived.Test.YtpocmijfkjjboaaSjF
import Derived.Test.YtpocmijfkjjboaaSiS
set_option linter.unusedVariables false
namespace Go.Proofs.Ytpocmijfkjjboaa
open Go.ChangeShapes Go.WideShapes Go.ChangeAt Go.RowKit

/-- The site g in state s, and a slice v, of the checks l, that no block of the site holds. -/
def OpW (B : Nat) (w : World) (g : Nat) (s : St) (v : Value) (l : List ByteArray) : Prop :=
  ∃ p, SiteW w g s p ∧ (∀ b, some b ∈ p.fp g → B ≤ b) ∧ w.ownsRow B 9 1 v l.length (l.flatMap encS) ∧ ∀ b, v.ownBlock = some b → some b ∉ p.fp g
theorem lt_own {w : World} {base n : Nat} {e : TypeId} {sz : Nat} {v : Value} {xs : List Value} (h : w.ownsRow base e sz v n xs) {b : Nat} (hb : v.ownBlock = some b) : b < w.heap.size := by
  obtain ⟨_, ⟨q, _⟩ | ⟨g, cap, cur, q1, q2, q3, _⟩⟩ := h
  · rw [q] at hb; cases hb
  · rw [q1] at hb
    have hb : some g = some b := hb
    injection hb with hb
    subst hb
    exact (Array.getElem?_eq_some_iff.1 q3).1
theorem keep_own {w w' : World} {base n : Nat} {e : TypeId} {sz : Nat} {v : Value} {xs : List Value} (h : w.ownsRow base e sz v n xs) (hk : ∀ b, v.ownBlock = some b → w'.heap[b]? = w.heap[b]?) : w'.ownsRow base e sz v n xs :=
  ⟨h.1, h.2.imp id fun ⟨g, cap, cur, h1, h2, h3, h4⟩ => ⟨g, cap, cur, h1, h2, (hk g (by rw [h1]; rfl)).trans h3, h4⟩⟩
section
variable {B : Nat} {w w' u : World} {g : Nat} {s : St} {v : Value} {l : List ByteArray}
theorem OpW.start {p : SV} (h1 : SiteW w g s p) (h2 : ∀ b, some b ∈ p.fp g → B ≤ b) : OpW B w g s (.slice none 0 0) [] :=
  ⟨p, h1, h2, World.ownsRow_nil _ _ _ _, fun b hb => by cases hb⟩
theorem OpW.up (hb : Below w.heap.size w w') (h : OpW B w g s v l) : OpW B w' g s v l := by
  obtain ⟨p, h1, h2, h3, h4⟩ := h
  exact ⟨p, h1.bel hb, h2, keep_own h3 fun b e => hb.block b (lt_own h3 e), h4⟩
theorem OpW.isS (h : OpW B w g s v l) : IsS l v w := by
  obtain ⟨p, h1, h2, h3, h4⟩ := h
  exact row_isS h3
theorem op_do (h : OpW B u g s v l) (hB : B ≤ u.heap.size) (hok : s.ok) (xd xk : Int) (xn : ByteArray) (hz : xn.size ≤ 60) :
    Calls Try.prog 12 #[.pointer (some ⟨g, 0, none⟩), .agg #[.int .i64 xd, .int .i64 xk, .string xn]] u fun e w' => e = .returned (.int .i64 (doS s ⟨xd, xk, xn⟩).1) ∧ OpW B w' g (doS s ⟨xd, xk, xn⟩).2 v l ∧ Below B u w' := by
  obtain ⟨p, h1, h2, h3, h4⟩ := h
  refine (do_any s hok xd xk xn hz g p u h1).mono ?_
  rintro e w' ⟨rfl, p', k1, k2, k3⟩
  refine ⟨rfl, ⟨p', k1, fun b hb => ?_, keep_own h3 fun b e => k2.block b (lt_own h3 e) (h4 b e), fun b e hb => ?_⟩, k2.below hB h2⟩
  · rcases k3 b hb with r | r
    · exact h2 b r
    · exact Nat.le_trans hB r
  · rcases k3 b hb with r | r
    · exact h4 b e r
    · have := lt_own h3 e; omega
/-- The same beside a block of the entry that was made behind the site. -/
theorem op_do_at (h : OpW B w g s v l) (hb : Below w.heap.size w u) (hB : B ≤ w.heap.size) (hok : s.ok) (xd xk : Int) (xn : ByteArray) (hz : xn.size ≤ 60) {X : Nat} {cs : Array Value} (kx : At u X 35 cs) (hX : w.heap.size ≤ X) (hvX : True) :
    Calls Try.prog 12 #[.pointer (some ⟨g, 0, none⟩), .agg #[.int .i64 xd, .int .i64 xk, .string xn]] u fun e w' => e = .returned (.int .i64 (doS s ⟨xd, xk, xn⟩).1) ∧ OpW B w' g (doS s ⟨xd, xk, xn⟩).2 v l ∧ At w' X 35 cs ∧ (∀ b, v.ownBlock = some b → b < w.heap.size) ∧ Below B u w' := by
  obtain ⟨p, h1, h2, h3, h4⟩ := h
  refine (do_any s hok xd xk xn hz g p u (h1.bel hb)).mono ?_
  rintro e w' ⟨rfl, p', k1, k2, k3⟩
  have hu := hb.size
  refine ⟨rfl, ⟨p', k1, fun b hb => ?_, keep_own (keep_own h3 fun b e => hb.block b (lt_own h3 e)) fun b e => k2.block b (by have := lt_own h3 e; omega) (h4 b e), fun b e hb => ?_⟩, (k2.block X kx.lt (fun hm => by have := h1.lt hm; omega)).trans kx, fun b e => lt_own h3 e, k2.below (by omega) h2⟩
  · rcases k3 b hb with r | r
    · exact h2 b r
    · omega
  · rcases k3 b hb with r | r
    · exact h4 b e r
    · have := lt_own h3 e; omega
/-- The law's slice has grown, or was shortened in place. -/
theorem OpW.next (h : OpW B w g s v l) (hg : w.grownBy w' v.ownBlock) {v' : Value} {l' : List ByteArray} (ho : w'.ownsRow B 9 1 v' l'.length (l'.flatMap encS)) (hv : v'.ownBlock = v.ownBlock ∨ v'.ownBlock = some w.heap.size) : OpW B w' g s v' l' := by
  obtain ⟨p, h1, h2, h3, h4⟩ := h
  refine ⟨p, h1.keep fun b hb => hg.block b (h1.lt hb) fun e => h4 b e.symm hb, h2, ho, fun b e hb => ?_⟩
  rcases hv with r | r
  · exact h4 b (r ▸ e) hb
  · rw [r] at e
    injection e with e
    have := h1.lt hb
    omega
theorem OpW.below (h : OpW B w g s v l) (hB : B ≤ w.heap.size) (hg : w.grownBy w' v.ownBlock) : Below B w w' := by
  obtain ⟨p, h1, h2, h3, h4⟩ := h
  refine ⟨hg.os, hg.tape, hg.output, hg.size, fun k hk => hg.block k (by omega) fun e => ?_⟩
  obtain ⟨_, ⟨q, _⟩ | ⟨b, cap, cur, q1, q2, q3, _⟩⟩ := h3
  · rw [q] at e; cases e
  · rw [q1] at e
    have e : some b = some k := e.symm
    injection e with e
    omega
theorem OpW.row (h : OpW B w g s v l) : w.ownsRow B 9 1 v l.length (l.flatMap encS) := by
  obtain ⟨p, h1, h2, h3, h4⟩ := h
  exact h3
theorem OpW.rowAt {ao : Option Addr} {n co : Nat} (h : OpW B w g s (.slice ao n co) l) : RowAt encS 1 w.heap.size w ao l := by
  obtain ⟨a, c, e, _, _, r⟩ := h.isS
  injection e with e1 e2 e3
  rw [e1]
  exact r
theorem op_contains {ao : Option Addr} {n co : Nat} (h : OpW B u g s (.slice ao n co) l) (hn : l.length = n) (hl : l.length ≤ 1000000) (x : ByteArray) :
    Calls Try.prog 23 #[.slice ao n co, .string x] u fun e w' => e = .returned (.bool (inB x l)) ∧ u = w' := by
  subst hn
  exact contains_any l ao co hl x _ u h.rowAt
theorem op_open (h : OpW B u g s v l) (hok : s.ok) : Calls Try.prog 16 #[.pointer (some ⟨g, 0, none⟩)] u fun e w' => (∃ y, e = .returned y ∧ IsS s.open_ y w') ∧ Below u.heap.size u w' := by
  obtain ⟨p, h1, _⟩ := h
  exact (open_any s hok g p u h1).mono fun e w' ⟨⟨v, e1, e2⟩, e3⟩ => ⟨⟨v, e1, row_isS e2.out⟩, e3⟩
theorem op_ready (h : OpW B u g s v l) (hok : s.ok) : Calls Try.prog 17 #[.pointer (some ⟨g, 0, none⟩)] u fun e w' => e = .returned (.bool (readyS s)) ∧ Below u.heap.size u w' := by
  obtain ⟨p, h1, _⟩ := h
  exact ready_any s hok g p u h1
end
theorem ready_open {s : St} (h : 0 < s.open_.length) : readyS s = false := by
  unfold readyS
  rw [isEmpty_len s.open_, decide_eq_false (by omega), Bool.and_false]

end Go.Proofs.Ytpocmijfkjjboaa
