/- The five listed tables: the door's own heap meets the condition; the condition gives the table of powers of ten and strconv's two sentinels. A slice of fractions, opened. -/
import Derived.Test.YtpijmjffobkalaaDoorLTxt
import Derived.Test.YtpijmjffobkalaaDoorRows
import Derived.ProofKit
import Derived.LaidMore
import Derived.Stop.Joined
import Derived.Stop.LaidErr
import Derived.Deep.SlicePairs
import Derived.SizedLaws
namespace Go.Proofs.YtpijmjffobkalaaDoor
open Go.ChangeShapes Go.WideShapes Go.ChangeAt Go.RowKit

abbrev doorSteps : Nat := 2000
abbrev laid5 : List (String × DataW Unit) := Rows.ratioTextsRow.laid
set_option maxRecDepth 100000 in
theorem door_met (os : Os) (args : Array Value) : laidMetH Tryd.prog laid5 ((World.doorLaid Tryd.prog doorSteps os).forCall (fun _ _ => 0) ⟨#[], args, []⟩).memory :=
  laidMetH_of_parts3 (fuel := 8) (laidMet_of_run' 8 (by kernel_rfl) (by kernel_rfl)) (by kernel_rfl) (by kernel_rfl)
theorem star_err : "*" ++ "errors.errorString" = "*errors.errorString" := by decide
theorem row_err (u : TypeId) (h : Tryd.prog.typeName? 3 u = some "*errors.errorString") : u = 124 :=
  typeName_ptr_named (nm := "errors.errorString") (by rw [star_err]; kernel_rfl) (by kernel_rfl) (by decide) u (by rw [star_err]; exact h)
theorem env_of {W : World} (h : laidMetH Tryd.prog laid5 W) : Env W := by
  rw [MakeChecks.laidMetH_plain _ _ _ (by kernel_rfl)] at h
  have h2 := Go.laidMet.tail (Go.laidMet.tail h)
  have h3 := Go.laidMet.tail h2
  have h4 := Go.laidMet.tail h3
  refine ⟨Lib.tabIs_of_head (g := 5) (by kernel_rfl) (by kernel_rfl) Tryd.underlying128 Tryd.underlying56 (by kernel_rfl) (by kernel_rfl) h2, ?_, ?_⟩
  · obtain ⟨a, s, hv, -, -, -⟩ := laid_sentinel (g := 3) h4 (by kernel_rfl) (by kernel_rfl) Tryd.underlying81 row_err Tryd.underlying124 Tryd.underlying126 rfl rfl Tryd.underlying9 (by kernel_rfl) (by kernel_rfl)
    exact ⟨_, _, hv⟩
  · obtain ⟨a, s, hv, -, -, -⟩ := laid_sentinel (g := 4) h3 (by kernel_rfl) (by kernel_rfl) Tryd.underlying81 row_err Tryd.underlying124 Tryd.underlying126 rfl rfl Tryd.underlying9 (by kernel_rfl) (by kernel_rfl)
    exact ⟨_, _, hv⟩
def toI : Value → Int | .int _ n => n | _ => 0
theorem cell_in {w : World} {a : Addr} {v : Value} (h : w.cell? a = some v) : a.spot = none ∧ a.block < w.heap.size := by
  unfold World.cell? at h
  split at h
  · rename_i c x y hh
    constructor
    · cases hs : a.spot with
      | none => rfl
      | some z => rw [hs] at h; cases h
    · rcases Nat.lt_or_ge a.block w.heap.size with k | k
      · exact k
      · rw [Array.getElem?_eq_none k] at hh; cases hh
  · cases h
section
variable {H : Type} {enc : TypeId × Value → H}
set_option maxRecDepth 100000 in
theorem open_fracs {r : Reach} {b0 : Nat} {W : World} {v : Value} {d : DataW H} {ps : List MemPlace} (hval : Value.okWide Tryd.prog W r b0 42 v) (hd : DataW.Trod enc Tryd.prog W 0 (fun _ => true) true 42 v d ps) :
    ∃ (l : List (Int × Int)) (ao : Option Addr) (cap : Nat), v = .slice ao l.length cap ∧ l.length ≤ cap ∧ FrAt W.heap.size W ao l ∧ (cap = 0 ∨ ∃ elems spare, d = .slice elems spare ∧ elems.length + spare.length = cap) := by
  obtain ⟨a0, len0, cap0, rfl⟩ := okWide_slice Tryd.underlying42 hval
  obtain ⟨fuel, hf⟩ := hd
  rcases Go.Deep.open_slice_pairs Tryd.underlying42 Tryd.underlying23 (by kernel_rfl) rfl rfl (by kernel_rfl) (by kernel_rfl) hf with ⟨hc, hx⟩ | ⟨a, len, cap, m, k, V0, V1, D0, D1, P0, P1, hc, _, hl, hm, hmm, hx, hall⟩
  · simp only [Value.cells, List.cons.injEq, and_true, Value.slice.injEq] at hc
    obtain ⟨rfl, rfl, rfl⟩ := hc
    exact ⟨[], none, 0, rfl, Nat.le_refl _, (fun k hk => absurd hk (by simp)), Or.inl rfl⟩
  · simp only [Value.cells, List.cons.injEq, and_true, Value.slice.injEq] at hc
    obtain ⟨rfl, rfl, rfl⟩ := hc
    simp only [if_true] at hmm
    subst hmm
    simp only [Prod.mk.injEq] at hx
    refine ⟨(List.range len0).map fun i => (toI (V0 i), toI (V1 i)), some a, m, by simp, by simpa using hl, ?_, Or.inr ⟨_, _, hx.1, by simp; omega⟩⟩
    intro i hi
    have hi' : i < len0 := by simpa using hi
    obtain ⟨c0, c1, t0, t1⟩ := hall i (by omega)
    obtain ⟨n0, e0, _, _⟩ := DataW.trod_int Tryd.underlying3 t0
    obtain ⟨n1, e1, _, _⟩ := DataW.trod_int Tryd.underlying3 t1
    simp only [List.cons.injEq, and_true] at e0 e1
    obtain ⟨s1, s2⟩ := cell_in (hall 0 (by omega)).1
    have es : a = ⟨a.block, a.off, none⟩ := by
      have : (a.add (0 * 2)) = a := by simp [Addr.add]
      rw [this] at s1
      cases a
      simp only at s1
      rw [s1]
    have hb : a.block < W.heap.size := by
      have : (a.add (0 * 2)) = a := by simp [Addr.add]
      rwa [this] at s2
    have ad : ∀ n, a.add n = ⟨a.block, a.off + n, none⟩ := by
      intro n
      rw [es]
      unfold Addr.add
      split
      · rename_i h; rw [h]; rfl
      · rfl
    rw [ad] at c0 c1
    refine ⟨a.block, a.off, by rw [← es], ?_, ?_, hb⟩
    · rw [c0, e0]
      simp [e0, toI]
    · rw [show a.off + i * 2 + 1 = a.off + (i * 2 + 1) by omega, c1, e1]
      simp [e1, toI]
theorem sized_fracs {ts : List TypeId} {ds : List (DataW H)} {cap j : Nat} {d : DataW H} (h : (DataW.weightsEach Tryd.prog ts ds).all (· ≤ reachBytes) = true) (ht : ts[j]? = some 42) (hd : ds[j]? = some d)
    (hc : cap = 0 ∨ ∃ elems spare, d = .slice elems spare ∧ elems.length + spare.length = cap) : cap ≤ 9223372036854775806 := by
  rcases hc with rfl | ⟨el, sp, rfl, e⟩
  · omega
  · have h1 := sized_slice h ht hd Tryd.underlying42
    have h2 := reachBytes_lt
    have h3 : Tryd.prog.bytesOf 23 = 16 := by kernel_rfl
    rw [e, h3] at h1
    have e3 : (2 : Nat) ^ 47 = 140737488355328 := by decide
    omega
end
end Go.Proofs.YtpijmjffobkalaaDoor
