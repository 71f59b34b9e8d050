/- lorry's search: a visit that goes on. The library's table of powers of ten; strconv.Itoa by its contract. -/
import Derived.Test.YtjlkbmaigcgnbaaDoorBJ23
import Derived.Test.YtjlkbmaigcgnbaaDoorBJ28
import Derived.StillTailTactics
import Derived.Test.YtjlkbmaigcgnbaaDoorBJ00
import Derived.Test.YtjlkbmaigcgnbaaDoorBJ05
import Derived.Test.YtjlkbmaigcgnbaaDoorBJ08
import Derived.Lib.LaidTab
set_option linter.unusedVariables false
namespace Go.Proofs.YtjlkbmaigcgnbaaDoor
open Go.ChangeShapes Go.WideShapes Go.ChangeAt Go.RowKit Go.Maps Go.ChangeMaps Go.WideMaps
def ClipR (w : World) (a0 : Option Addr) (n : Nat) (xs : List Value) : Prop := xs.length = n ∧ ((a0 = none ∧ n = 0) ∨ ∃ g, a0 = some ⟨g, 0, none⟩ ∧ ∀ j u, xs[j]? = some u → w.cell? ((⟨g, 0, none⟩ : Addr).add j) = some u)
theorem ClipR.of {w : World} {base n c : Nat} {e : TypeId} {a0 : Option Addr} {xs : List Value} (h : w.ownsRow base e 1 (.slice a0 n c) n xs) : ClipR w a0 n xs := by
  refine ⟨by have := h.1; omega, ?_⟩
  have h0 := h
  obtain ⟨_, ⟨h1, h2⟩ | ⟨g, cap, cur, h1, h2, h3⟩⟩ := h
  · injection h1 with h1
    exact .inl ⟨h1, h2⟩
  · injection h1 with h1
    exact .inr ⟨g, h1, h0.cells (g := g) (by rw [h1]; rfl)⟩
theorem ClipR.up {w w' : World} {a0 : Option Addr} {n : Nat} {xs : List Value} (h : ClipR w a0 n xs) (hb : Below w.heap.size w w') : ClipR w' a0 n xs :=
  ⟨h.1, h.2.imp id fun ⟨g, e, hc⟩ => ⟨g, e, fun j u hu => cell_up hb (hc j u hu)⟩⟩
theorem run_append_full (w : World) (t ty e : TypeId) (i : TypeInfo) (z : Value) (bytes : Nat) (ht : Tryd.prog.underlying t = some (.slice e)) (hi : Tryd.prog.info? e = some i) (hz : i.zero = some z) (hs1 : i.size = 1) (hby : i.bytes = bytes) (hb2 : bytes ≤ 100) (hzs : z.cells.size = 1) (a0 : Option Addr) (n : Nat) (xs : List Value) (hown : ClipR w a0 n xs) (ad : Addr) (c : Nat) (u : Value) (hu : w.cell? ad = some u) (hn : n ≤ 1000000) :
    ∃ v' w', (Builtin.append_ #[t, t] ty #[.slice a0 n n, .slice (some ad) 1 c]).run Tryd.prog w = .ok v' w' ∧ w'.ownsRow w.heap.size e 1 v' (n + 1) (xs ++ [u]) ∧ Below w.heap.size w w' := by
  have hnews : ∀ j x, [u][j]? = some x → w.cell? (ad.add j) = some x := fun j x hj => by
    match j, hj with
    | 0, hj =>
      simp at hj
      subst hj
      exact hu
  have hl : [u].length = 1 * i.size := by rw [hs1]; rfl
  have hxl : xs.length = n := hown.1
  have grown : ∀ (old : Nat), (w.drew.alloc (.cells (xs.toArray ++ [u].toArray ++ Builtin.zeroCells z.cells (grownCap w (n + 1) old e - (n + 1))) e)).ownsRow w.heap.size e 1 (.slice (some ⟨w.heap.size, 0, none⟩) (n + 1) (grownCap w (n + 1) old e)) (n + 1) (xs ++ [u]) ∧ Below w.heap.size w (w.drew.alloc (.cells (xs.toArray ++ [u].toArray ++ Builtin.zeroCells z.cells (grownCap w (n + 1) old e - (n + 1))) e)) := fun old => by
    have hge := grownCap_ge w (n + 1) old e
    have hcm : grownCap w (n + 1) old e ≤ maxLen := grownCap_le_maxLen w (n + 1) old _ (by unfold maxLen; omega)
    refine ⟨⟨by simp [hxl], .inr ⟨w.heap.size, _, _, rfl, Nat.le_refl _, heap_alloc_new w.drew _, hge, hcm, ?_, ?_⟩⟩, below_al (below_drew (Below.refl _ _)) _⟩
    · simp only [Array.size_append, List.size_toArray, size_zeroCells, hzs, hxl, List.length_singleton]
      omega
    · simp only [Array.toList_append, List.append_assoc]
      rw [← List.append_assoc, show (n + 1) * 1 = (xs ++ [u]).length by simp [hxl]]
      exact List.take_left
  obtain ⟨_, ⟨h1, h2⟩ | ⟨g, h1, h2⟩⟩ := hown
  · subst h1 h2
    have hx : xs = [] := List.eq_nil_of_length_eq_zero hxl
    subst hx
    have hr := run_append_nil (P := Tryd.prog) w t ty e i _ ht hi hz ad 1 c [u] hl hnews (by decide) (by decide) (by omega)
    obtain ⟨q1, q2⟩ := grown 0
    simp only [Nat.zero_add, List.nil_append, Array.empty_append] at q1 q2
    exact ⟨_, _, hr, q1, q2⟩
  · subst h1
    have hr := run_append_grow (P := Tryd.prog) w t ty e i _ ht hi hz ⟨g, 0, none⟩ n n xs (by rw [hs1]; omega) h2 ad 1 c [u] hl hnews (by omega) (by omega) (growslice_fits (by omega) (by rw [hby]; exact Nat.le_trans (Nat.mul_le_mul (show n + 1 ≤ 1000001 by omega) hb2) (by decide)))
    obtain ⟨q1, q2⟩ := grown n
    exact ⟨_, _, hr, q1, q2⟩
theorem wpList_append_full {ops : Array Oper} {rest : List Oper} {o : Oper} {a : Act} {Q : Exit → Act → World → Prop} {w : World} (hgd : o.guard = none) (s y : Operand) (t : TypeId)
    (ho : o.op = .call { callee := .builtin .append, args := #[s, y], argTypes := #[t, t] }) (e : TypeId) (i : TypeInfo) (z : Value) (bytes : Nat) (ht : Tryd.prog.underlying t = some (.slice e)) (hi : Tryd.prog.info? e = some i) (hz : i.zero = some z) (hs1 : i.size = 1) (hby : i.bytes = bytes) (hb2 : bytes ≤ 100) (hzs : z.cells.size = 1) (a0 : Option Addr) (n : Nat) (xs : List Value) (hs : a.eval s = .slice a0 n n) (hown : ClipR w a0 n xs) (ad : Addr) (c : Nat) (u : Value) (hy : a.eval y = .slice (some ad) 1 c) (hu : w.cell? ad = some u) (hn : n ≤ 1000000)
    (hk : ∀ g' c' w', w'.ownsRow w.heap.size e 1 (.slice g' (n + 1) c') (n + 1) (xs ++ [u]) → Below w.heap.size w w' → wpList Tryd.prog ops Q rest (a.put o.dst (.slice g' (n + 1) c')) w') : wpList Tryd.prog ops Q (o :: rest) a w := by
  refine wpList_plain hgd fun K hK => ?_
  obtain ⟨v', w', hr, h2, h3⟩ := run_append_full w t o.type e i z bytes ht hi hz hs1 hby hb2 hzs a0 n xs hown ad c u hu hn
  obtain ⟨g', c', rfl⟩ := own_slice h2
  unfold Oper.wp execOp
  simp only [ho, resolve, invoke, builtin, Sem.run_bind, Sem.run_pure, Result.andThen_ok, List.map_toArray, List.map_cons, List.map_nil, hs, hy, hr]
  exact hK _ _ (hk g' c' w' h2 h3)
set_option maxRecDepth 100000 in
set_option maxHeartbeats 1000000 in
theorem clipO_any (a : Option Addr) (n c : Nat) (w : World) (h : n ≤ c) (hc : c ≤ 9223372036854775807) : Calls Tryd.prog 50 #[.slice a n c] w fun e w' => e = .returned (.slice a n n) ∧ w = w' := by
  go_enter Tryd.func50, Tryd.ntmps50
  go_wp2_with fail
  go_ret
  exact ⟨rfl, rfl⟩
set_option maxRecDepth 100000 in
set_option maxHeartbeats 1000000 in
theorem clipI_any (a : Option Addr) (n c : Nat) (w : World) (h : n ≤ c) (hc : c ≤ 9223372036854775807) : Calls Tryd.prog 51 #[.slice a n c] w fun e w' => e = .returned (.slice a n n) ∧ w = w' := by
  go_enter Tryd.func51, Tryd.ntmps51
  go_wp2_with fail
  go_ret
  exact ⟨rfl, rfl⟩
end Go.Proofs.YtjlkbmaigcgnbaaDoor
set_option linter.unusedVariables false
namespace Go.Proofs.YtjlkbmaigcgnbaaDoor
open Go.ChangeShapes Go.WideShapes Go.ChangeAt Go.RowKit
abbrev Tab (w : World) : Prop := Lib.TabIs Tryd.prog w "internal/strconv.uint64pow10" .u64 Lib.pow10Tab
theorem Tab.bel {w w' : World} (h : Tab w) (hb : Below w.heap.size w w') : Tab w' := by
  unfold Tab Lib.TabIs World.var? at *
  cases hg : Tryd.prog.globalNamed "internal/strconv.uint64pow10" with
  | none => rw [hg] at h; simp at h
  | some g =>
    simp only [hg, Option.bind_some] at h ⊢
    have hlt : g < w.heap.size := by
      rcases Nat.lt_or_ge g w.heap.size with k | k
      · exact k
      · rw [Array.getElem?_eq_none k] at h; simp at h
    rw [hb.block g hlt]
    exact h
theorem hb_grow (w : World) (k : Nat) (os : Array Obj) : Below w.heap.size w (Go.Sort.grow (w.drewN k) os) := by
  have := below_regrown w (w.drewN k).drawn os
  exact this
theorem itoa_tab (n : Int) (h : -9223372036854775808 ≤ n ∧ n ≤ 9223372036854775807) (w : World) (ht : Tab w) :
    Calls Tryd.prog 23 #[.int .i64 n] w fun e w' => e = .returned (.string ⟨(Lib.itoa n).toArray⟩) ∧ Below w.heap.size w w' :=
  (Tryd.strconv_Itoa n h.1 h.2 w ht).mono fun _ _ ⟨he, k, os, hw⟩ => ⟨he, by rw [hw]; exact hb_grow w k os⟩
end Go.Proofs.YtjlkbmaigcgnbaaDoor
