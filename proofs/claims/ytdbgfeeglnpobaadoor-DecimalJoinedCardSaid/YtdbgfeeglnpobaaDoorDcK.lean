/- DecimalJoined's walk: it returns true (the loop over the tokens). -/
import Derived.Test.YtdbgfeeglnpobaaDoorDcJ
set_option linter.unusedVariables false
namespace Go.Proofs.YtdbgfeeglnpobaaDoor
open Go.ChangeShapes Go.WideShapes Go.ChangeAt Go.RowKit

open Go.Lib (join)
structure EnvJ (w : World) : Prop where
  tab : Tab w
  mx : ∃ m, w.cell? ⟨0, 0, none⟩ = some (.int .i64 m)
theorem infoStrJ : (Tryd.prog.info? 9).map (fun i => (i.zero, i.size, i.bytes)) = some (some (.string ⟨#[]⟩), 1, 16) := by kernel_rfl
theorem own_lt {w : World} {base n : Nat} {e : TypeId} {sz : Nat} {v : Value} {xs : List Value} (h : w.ownsRow base e sz v n xs) {b : Nat} (hb : v.ownBlock = some b) : b < w.heap.size ∧ base ≤ b := ⟨(h.lt b hb).2, (h.lt b hb).1⟩
/-- The text of a token, as the law joins it. -/
def strT (t : Tk) : Value := .string ⟨(txT t).toArray⟩
theorem cell_up {w w' : World} {a : Addr} {v : Value} (hb : Below w.heap.size w w') (h : w.cell? a = some v) : w'.cell? a = some v := (hb.cell (block_lt_of_cell h)).trans h
/-- Strings in a block. -/
def StrAt (w : World) (g : Nat) (ws : List ByteArray) : Prop := ∀ (k : Nat) (hk : k < ws.length), w.cell? ⟨g, k, none⟩ = some (.string ws[k])
theorem split10 (s : ByteArray) (hs : s.size ≤ 1000000) (w : World) (h : EnvJ w) :
    Calls Tryd.prog 27 #[.string s, .string ⟨#[10]⟩] w fun e w' => (∃ ws : List ByteArray, e = .returned (.slice (some ⟨w.heap.size, 0, none⟩) ws.length ws.length) ∧ Hid (ws.map by_ = splitB 10 (by_ s)) ∧ Hid (StrAt w' w.heap.size ws ∧ w.heap.size < w'.heap.size)) ∧ Below w.heap.size w w' := by
  obtain ⟨m, hm⟩ := h.mx
  refine (Tryd.strings_Split s ⟨#[10]⟩ m w (by omega) hm (by decide)).mono ?_
  rintro e w' ⟨rfl, rfl⟩
  have hp := split_by 10 _ s rfl
  have hl := Lib.splitB_all ⟨#[10]⟩ (by decide) 0 _ s rfl
  refine ⟨⟨Lib.splitB ⟨#[10]⟩ 0 (Lib.countB s ⟨#[10]⟩) s, by rw [hl], Lib.hid hp, Lib.hid ⟨?_, (At.new w _ _).lt⟩⟩, below_al (Below.refl _ _) _⟩
  generalize Lib.splitB ⟨#[10]⟩ 0 (Lib.countB s ⟨#[10]⟩) s = ws at *
  intro k hk
  rw [cell_of_row _ w.heap.size k _ 9 (0, 0) (heap_alloc_new w _)]
  simp [hk]
theorem StrAt.bel {w w' : World} {g : Nat} {ws : List ByteArray} (h : StrAt w g ws) (hg : g < w.heap.size) (hb : Below w.heap.size w w') : StrAt w' g ws := fun k hk => (hb.cell hg).trans (h k hk)
/-- What is known of the k-th token. -/
theorem pos_known {s : ByteArray} {ws : List ByteArray} (hw : ws.map by_ = splitB 10 (by_ s)) {t : Tk} (h : PosT (by_ s) t) : ∃ (i j : Nat) (hi : i < ws.length), t.line = (i : Int) + 1 ∧ t.col = (j : Int) + 1 ∧ j ≤ (ws[i]).size ∧ t.text <+: (by_ ws[i]).drop j := by
  obtain ⟨i, j, x, h1, h2, h3, h4, h5⟩ := h
  rw [← hw, List.getElem?_map, Option.map_eq_some_iff] at h3
  obtain ⟨y, hy, rfl⟩ := h3
  obtain ⟨hi, rfl⟩ := List.getElem?_eq_some_iff.1 hy
  exact ⟨i, j, hi, h1, h2, h4, h5⟩

end Go.Proofs.YtdbgfeeglnpobaaDoor
