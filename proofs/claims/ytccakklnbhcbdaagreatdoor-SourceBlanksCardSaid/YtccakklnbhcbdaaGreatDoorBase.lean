/- Words of my own that every walk of this seat uses: what is kept below a block; regions that draw their order beside calls that make memory; the row's last step for a law that leaves what was there alone. -/
import Derived.Test.YtccakklnbhcbdaaGreatDoorRows
import Derived.WalkKit
import Derived.ProofKit
import Derived.OpenShut
import Derived.BigQuiet
import Derived.Deep.QuietTactic
import Derived.Lib.QuietBelow
import Derived.Lib.Hide
set_option linter.unusedVariables false
namespace Go.Proofs.YtccakklnbhcbdaaGreatDoor
open Go.ChangeShapes Go.WideShapes Go.ChangeAt Go.RowKit

/-- What a contract's 'Below' says of the cells and of the marks of old blocks, as rules for the walk. -/
theorem oldc {W w1 : World} (h : Below W.heap.size W w1) (b o : Nat) (hlt : b < W.heap.size) : w1.cell? ⟨b, o, none⟩ = W.cell? ⟨b, o, none⟩ := h.cell hlt
theorem oldf {W w1 : World} (h : Below W.heap.size W w1) (b o : Nat) (hlt : b < W.heap.size) : w1.frozen? ⟨b, o, none⟩ = W.frozen? ⟨b, o, none⟩ := h.frozen hlt

/-- Block g holds just these cells, of elements of type t; none of them is frozen. -/
def At (w : World) (g : Nat) (t : TypeId) (cs : Array Value) : Prop := w.heap[g]? = some (.cells cs t (0, 0))
section
variable {w w' : World} {g : Nat} {t : TypeId} {cs : Array Value}
theorem At.lt (h : At w g t cs) : g < w.heap.size := by
  unfold At at h
  exact (Array.getElem?_eq_some_iff.1 h).1
theorem At.c (h : At w g t cs) (i : Nat) : w.cell? ⟨g, i, none⟩ = cs[i]? := cell_of_row w g i cs t (0, 0) h
theorem At.f (h : At w g t cs) (i : Nat) : w.frozen? ⟨g, i, none⟩ = false := by
  unfold At at h
  simp [World.frozen?, h]
theorem At.new (w : World) (t : TypeId) (cs : Array Value) : At (w.alloc (.cells cs t)) w.heap.size t cs := heap_alloc_new w _
theorem At.new' {w : World} {n : Nat} {t : TypeId} {cs : Array Value} (h : n = w.heap.size) : At (w.alloc (.cells cs t)) n t cs := by subst h; exact At.new w t cs
theorem At.two {x y : Value} (h : At w g t #[x, y]) : w.cell? ⟨g, 0, none⟩ = some x ∧ w.cell? ⟨g, 1, none⟩ = some y ∧ w.frozen? ⟨g, 0, none⟩ = false ∧ w.frozen? ⟨g, 1, none⟩ = false := ⟨h.c 0, h.c 1, h.f 0, h.f 1⟩
theorem At.al (h : At w g t cs) (o : Obj) : At (w.alloc o) g t cs := (Below.heap_alloc w o g h.lt).trans h
theorem At.c0 {x y : Value} (h : At w g t #[x, y]) : w.cell? ⟨g, 0, none⟩ = some x := h.c 0
theorem At.c1 {x y : Value} (h : At w g t #[x, y]) : w.cell? ⟨g, 1, none⟩ = some y := h.c 1
theorem At.drw (h : At w g t cs) : At w.drew g t cs := h
theorem At.dr (h : At w g t cs) (n : Nat) : At (w.drewN n) g t cs := h
theorem At.put (h : At w g t cs) (i : Nat) (u : Value) : At (w.setCell ⟨g, i, none⟩ u) g t (cs.setIfInBounds i u) := by
  unfold At at h ⊢
  simp [World.setCell, Array.getElem?_modify, h]
theorem At.put0 {x y : Value} (h : At w g t #[x, y]) (u : Value) : At (w.setCell ⟨g, 0, none⟩ u) g t #[u, y] := h.put 0 u
theorem At.put1 {x y : Value} (h : At w g t #[x, y]) (u : Value) : At (w.setCell ⟨g, 1, none⟩ u) g t #[x, u] := h.put 1 u
theorem At.far (h : At w g t cs) {p : Addr} (hp : g ≠ p.block) (u : Value) : At (w.setCell p u) g t cs := (Below.heap_setCell w p u g hp).trans h
theorem At.bel (h : At w g t cs) (hb : Below w.heap.size w w') : At w' g t cs := (hb.block g h.lt).trans h
end

theorem ret_bool {a b : Bool} (h : a = b) : Ending.returned (.bool a) = .returned (.bool b) := by rw [h]
theorem ret_int {k : IntKind} {a b : Int} (h : a = b) : Ending.returned (.int k a) = .returned (.int k b) := by rw [h]

theorem below_al {a w : World} (h : Below a.heap.size a w) (o : Obj) : Below a.heap.size a (w.alloc o) := h.alloc h.size o
theorem below_set {a w : World} (h : Below a.heap.size a w) {p : Addr} (hp : a.heap.size ≤ p.block) (u : Value) : Below a.heap.size a (w.setCell p u) := h.setCell hp u
theorem below_drewN {B : Nat} {a w : World} (h : Below B a w) (n : Nat) : Below B a (w.drewN n) := ⟨h.os, h.tape, h.output, h.size, h.block⟩
theorem below_drew {B : Nat} {a w : World} (h : Below B a w) : Below B a w.drew := ⟨h.os, h.tape, h.output, h.size, h.block⟩
/-- One call behind another: what was there at the first is as it was behind the second. -/
theorem below_then {a w w' : World} (h : Below a.heap.size a w) (k : Below w.heap.size w w') : Below a.heap.size a w' := h.trans (k.mono h.size)

/-! ### names for what a walk reckons: the equation is a rule that puts the name into the frame, what it is stays hidden -/
theorem nm_shl1 (a : Nat) : ∃ x : Nat, IntKind.u64.wrap ((a : Int) * 2) = (x : Int) ∧ Hid (x = 2 * a % 18446744073709551616) :=
  ⟨2 * a % 18446744073709551616, by rw [IntKind.wrap_u64]; omega, rfl⟩
theorem nm_shr63 (a : Nat) : ∃ x : Nat, (a : Int) / 9223372036854775808 = (x : Int) ∧ Hid (x = a / 9223372036854775808) :=
  ⟨a / 9223372036854775808, by omega, rfl⟩
theorem nm_add (a b : Nat) : ∃ x : Nat, IntKind.u64.wrap ((a : Int) + (b : Int)) = (x : Int) ∧ Hid (x = (a + b) % 18446744073709551616) :=
  ⟨(a + b) % 18446744073709551616, by rw [IntKind.wrap_u64]; omega, rfl⟩

section
variable {H : Type} {enc : TypeId × Value → H} {P : Program}
theorem trodAll_below {W W' : World} (hl : laidOutB P = true) (hb : Below W.heap.size W W') : ∀ (ts : List TypeId) (vs : List Value) (ds : List (DataW H)) (ps : List MemPlace),
    (∀ t ∈ ts, P.readableRec t = true ∧ t < P.types.size) → DataW.TrodAll enc P W 0 (fun _ => true) true ts vs ds ps → (∀ x ∈ ps, x.block < W.heap.size) →
    DataW.TrodAll enc P W' 0 (fun b => decide (b < W.heap.size)) true ts vs ds ps
  | [], [], [], _, _, h, _ => h
  | t :: ts, v :: vs, d :: ds, _, ht, ⟨p, q, h1, h2, e⟩, hlt => by
    subst e
    have h0 := ht t (by simp)
    exact ⟨p, q, Below.trod hl h0.1 h0.2 h1 hb (fun x hx => hlt x (by simp [hx])), trodAll_below hl hb ts vs ds q (fun t' ht' => ht t' (by simp [ht'])) h2 (fun x hx => hlt x (by simp [hx])), rfl⟩
  | [], _ :: _, _, _, _, h, _ => h.elim
  | [], [], _ :: _, _, _, h, _ => h.elim
  | _ :: _, [], _, _, _, h, _ => h.elim
  | _ :: _, _ :: _, [], _, _, h, _ => h.elim

/-- The row's last step for a law: it returned true, and of what was there nothing has turned. -/
theorem law_post {f : Func} {s : ChangeSpec} {W W' : World} {args : Array Value} {ds gs : List (DataW H)} {before : List MemPlace}
    (hl : laidOutB P = true) (hts : ∀ t ∈ f.params.toList, P.readableRec t = true ∧ t < P.types.size) {tb : TypeId} (hr : f.resultTypes = #[tb]) (htb : P.underlying tb = some .bool)
    (hv : s.vars = []) (hW : DataW.Whole enc P f.params.toList s.vars false W args.toList ds gs before)
    (hspec : (s.fn H (ds ++ gs)) = { results := [.lit (.bool true)], args := ds }) (hb : Below W.heap.size W W') :
    s.post enc P f false true false false W args (.bool true) W' := by
  have hlt : ∀ p ∈ before, p.block < W.heap.size := fun p hp => hW.lt p hp
  have hW' := hW
  obtain ⟨p, q, hA, hV, rfl, _, _⟩ := hW
  rw [hv] at hV
  obtain ⟨rfl, rfl⟩ := trodVars_none hV
  refine ⟨ds, [], p ++ [], [], p, [], hW', ?_, ?_, ?_, ?_, fun h => by cases h⟩
  · rw [hspec, hr]
    exact trodAll_mk1 (shut_bool htb _)
  · rw [hspec]
    exact trodAll_below hl hb _ _ _ _ hts hA (fun x hx => hlt x (by simp [hx]))
  · rw [hspec, hv]
    exact rfl
  · exact hb.frame _
end
end Go.Proofs.YtccakklnbhcbdaaGreatDoor
