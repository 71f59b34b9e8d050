/- slices among a law's arguments, opened (shared). -/
import Derived.Test.YtdcfpopbnkafaaaDoorEnB
import Derived.Deep.Slices
import Derived.WideShapes
import Derived.ChangeArms
import Derived.ProofKit
set_option linter.unusedVariables false
set_option maxRecDepth 10000
namespace Go.Proofs.YtdcfpopbnkafaaaDoor
open Go.ChangeShapes Go.WideShapes Go.ChangeAt Go.RowKit Go.Deep Go.ChangeMaps

theorem slice_form {P : Program} {w : World} {r : Reach} {base : Nat} {t e : TypeId} {ao : Option Addr} {len cap : Nat} (ht : P.underlying t = some (.slice e)) (h : Value.okWide P w r base t (.slice ao len cap)) : (ao = none ∧ len = 0 ∧ cap = 0) ∨ ∃ b off, ao = some ⟨b, off, none⟩ := by
  simp only [Value.okWide, ht, Cell.okWide] at h
  rcases ao with _ | ⟨b, off, sp⟩
  · refine .inl ⟨rfl, ?_⟩
    unfold Cell.ok at h
    rw [ht] at h
    rcases len with _ | len
    · rcases cap with _ | cap
      · exact ⟨rfl, rfl⟩
      · exact h.elim
    · exact h.elim
  · unfold Cell.ok at h
    rw [ht] at h
    obtain ⟨-, -, -, h, -⟩ := h
    refine .inr ⟨b, off, ?_⟩
    have h : sp = none := h
    rw [h]
instance : Inhabited Ent := ⟨⟨0, 0, ⟨#[]⟩⟩⟩
section
variable {H : Type} {enc : TypeId × Value → H}
theorem open_row {α : Type} [Inhabited α] (encA : α → List Value) (sz : Nat) {W : World} {r : Reach} {b0 : Nat} {t e : TypeId} {v : Value} {d : DataW H} {ps : List MemPlace} (ht : Tryd.prog.underlying t = some (.slice e)) (ce : Tryd.prog.cellsOf e = sz) (h0 : 0 < sz) (henc : ∀ x, (encA x).length = sz)
    (hel : ∀ n cs y, DataW.trod enc Tryd.prog W 0 (fun _ => true) true n e cs = some y → ∃ x : α, cs = encA x)
    (hval : Value.okWide Tryd.prog W r b0 t v) (hd : DataW.Trod enc Tryd.prog W 0 (fun _ => true) true t v d ps) :
    ∃ (l : List α) (ao : Option Addr) (cap : Nat), v = .slice ao l.length cap ∧ l.length ≤ cap ∧ cap ≤ 9223372036854775807 ∧ RowAt encA sz W.heap.size W ao l ∧ ((ao = none ∧ l.length = 0 ∧ cap = 0) ∨ ∃ b off, ao = some ⟨b, off, none⟩) := by
  obtain ⟨a0, len0, cap0, rfl⟩ := okWide_slice ht hval
  have hform := slice_form ht hval
  obtain ⟨fuel, hf⟩ := hd
  rcases open_slice ht hf with ⟨hc, _⟩ | ⟨a, len, cap, m, n, D, Pl, hc, _, hl, hm, hmm, _, hx⟩
  · simp only [Value.cells, List.cons.injEq, and_true, Value.slice.injEq] at hc
    obtain ⟨rfl, rfl, rfl⟩ := hc
    exact ⟨[], none, 0, rfl, Nat.le_refl _, by omega, RowAt.nil _ _, .inl ⟨rfl, rfl, rfl⟩⟩
  · simp only [Value.cells, List.cons.injEq, and_true, Value.slice.injEq] at hc
    obtain ⟨rfl, rfl, rfl⟩ := hc
    simp only [if_true] at hmm
    subst hmm
    rcases hform with ⟨h1, _⟩ | ⟨b, off, h1⟩
    · cases h1
    · simp only [Option.some.injEq] at h1
      subst h1
      have ad : ∀ i, (⟨b, off, none⟩ : Addr).add i = ⟨b, off + i, none⟩ := fun i => by cases i <;> simp [Addr.add]
      have each : ∀ i, i < len0 → ∃ x : α, ∀ j u, (encA x)[j]? = some u → W.cell? ⟨b, off + i * sz + j, none⟩ = some u := by
        intro i hi
        obtain ⟨cs', h1, h2⟩ := hx i (by omega)
        rw [ce] at h1
        obtain ⟨_, hlen, hcell⟩ := World.cells?_some h1
        obtain ⟨x, rfl⟩ := hel _ _ _ h2
        refine ⟨x, fun j u hu => ?_⟩
        have hj : j < sz := by rw [← henc x]; exact (List.getElem?_eq_some_iff.1 hu).1
        have := hcell j (by omega)
        rw [add_add, ad, ← Nat.add_assoc] at this
        rw [this, ← hu]
      obtain ⟨q, hq⟩ := choose_lt each
      refine ⟨(List.range len0).map q, some ⟨b, off, none⟩, m, by simp, by simpa using hl, by have : m ≤ 2 ^ 63 - 1 := hm; omega, ?_, .inr ⟨b, off, rfl⟩⟩
      intro k hk
      have hk' : k < len0 := by simpa using hk
      have hc := hq k hk'
      have hne : 0 < (encA (q k)).length := by rw [henc]; exact h0
      have hb : b < W.heap.size := block_lt_of_cell (hc 0 _ (List.getElem?_eq_getElem hne))
      refine ⟨b, off, rfl, hb, fun j u hu => ?_⟩
      have e : ((List.range len0).map q)[k] = q k := by simp
      rw [e] at hu
      exact hc j u hu
theorem c_int : Tryd.prog.cellsOf 3 = 1 := by kernel_rfl
theorem c_str : Tryd.prog.cellsOf 9 = 1 := by kernel_rfl
theorem c_ent : Tryd.prog.cellsOf 24 = 3 := by kernel_rfl
theorem el_ent {W : World} (n : Nat) (cs : List Value) (y : DataW H × List MemPlace) (h : DataW.trod enc Tryd.prog W 0 (fun _ => true) true n 24 cs = some y) : ∃ x : Ent, cs = encE x := by
  obtain ⟨xs, k, _, _, hl, hxl, hf⟩ := DataW.trod_struct Tryd.underlying24 h
  rw [c_ent] at hl
  match cs, hl, xs, hxl with
  | [v0, v1, v2], _, [y0, y1, y2], _ =>
    have g0 := hf 0 _ rfl
    have g1 := hf 1 _ rfl
    have g2 := hf 2 _ rfl
    simp [c_int, c_str] at g0 g1 g2
    obtain ⟨a0, e0, -, -⟩ := DataW.trod_int Tryd.underlying3 g0
    obtain ⟨a1, e1, -, -⟩ := DataW.trod_int Tryd.underlying3 g1
    obtain ⟨a2, e2, -, -⟩ := DataW.trod_string Tryd.underlying9 g2
    simp only [List.cons.injEq, and_true] at e0 e1 e2
    exact ⟨⟨a0, a1, a2⟩, by rw [e0, e1, e2]; rfl⟩
theorem open_ents {W : World} {r : Reach} {b0 : Nat} {v : Value} {d : DataW H} {ps : List MemPlace} (hval : Value.okWide Tryd.prog W r b0 34 v) (hd : DataW.Trod enc Tryd.prog W 0 (fun _ => true) true 34 v d ps) : ∃ (l : List Ent) (ao : Option Addr) (cap : Nat), v = .slice ao l.length cap ∧ l.length ≤ cap ∧ cap ≤ 9223372036854775807 ∧ RowAt encE 3 W.heap.size W ao l ∧ ((ao = none ∧ l.length = 0 ∧ cap = 0) ∨ ∃ b off, ao = some ⟨b, off, none⟩) :=
  open_row encE 3 Tryd.underlying34 c_ent (by decide) encE_len el_ent hval hd
end
end Go.Proofs.YtdcfpopbnkafaaaDoor
