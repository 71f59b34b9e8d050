/- site: Open, Entries. -/
import Derived.Test.YtpocmijfkjjboaaGreatDoorSiJ
import Derived.Test.YtpocmijfkjjboaaGreatDoorEnE
import Derived.Test.YtpocmijfkjjboaaGreatDoorEnS
set_option linter.unusedVariables false
namespace Go.Proofs.YtpocmijfkjjboaaGreatDoor
open Go.ChangeShapes Go.WideShapes Go.ChangeAt Go.RowKit Go.Shelf

set_option maxRecDepth 100000 in
theorem open_any (s : St) (hok : s.ok) (g : Nat) (p : SV) (w : World) (hs : SiteW w g s p) :
    Calls Tryz.prog 19 #[.pointer (some ⟨g, 0, none⟩)] w fun e w' => (∃ v, e = .returned v ∧ Hid (w'.ownsRow w.heap.size 9 1 v s.open_.length (s.open_.flatMap encS))) ∧ Below w.heap.size w w' := by
  obtain ⟨ao, cap, hvt, hl, hc, hrow, hf⟩ := hs.opn.view encS_len
  have hn : s.open_.length ≤ 100000 := by have := hok.openN; have := hok.keptN; omega
  have HC := Lib.hid (cloneS_any s.open_ ao cap hn (by rcases hf with ⟨h1, h2, _⟩ | ⟨g, h1, _⟩; exact .inl ⟨h1, h2⟩; exact .inr ⟨g, 0, h1⟩) _ w hrow)
  have z3 : w.cell? ⟨g, 3, none⟩ = some (.slice ao s.open_.length cap) := by
    have := hs.own.c 3
    rw [hvt] at this
    exact this
  generalize s.open_ = l at *
  generalize l.length = n at *
  generalize l.flatMap encS = xs at *
  clear hs hvt hrow hf hok
  go_enter Tryz.func19, Tryz.ntmps19
  go_wp2_with fail
  refine (HC.out).mono ?_
  rintro e w1 ⟨⟨v, rfl, ho⟩, HB⟩
  go_wp2_with fail
  go_ret
  exact ⟨⟨v, rfl, ho⟩, HB⟩

set_option maxRecDepth 100000 in
theorem entries_any (s : St) (hok : s.ok) (g : Nat) (p : SV) (w : World) (hs : SiteW w g s p) :
    Calls Tryz.prog 12 #[.pointer (some ⟨g, 0, none⟩)] w fun e w' => (∃ v, e = .returned v ∧ Hid (w'.ownsRow w.heap.size 39 3 v s.kept.length (s.kept.flatMap encE))) ∧ Below w.heap.size w w' := by
  obtain ⟨ao, cap, hvt, hl, hc, hrow, hf⟩ := hs.ents.view encE_len
  have hn : s.kept.length ≤ 100000 := by have := hok.openN; have := hok.keptN; omega
  have HC := Lib.hid (cloneE_any s.kept ao cap hn (by rcases hf with ⟨h1, h2, _⟩ | ⟨g, h1, _⟩; exact .inl ⟨h1, h2⟩; exact .inr ⟨g, 0, h1⟩) _ w hrow)
  have z3 : w.cell? ⟨g, 4, none⟩ = some (.slice ao s.kept.length cap) := by
    have := hs.own.c 4
    rw [hvt] at this
    exact this
  generalize s.kept = l at *
  generalize l.length = n at *
  generalize l.flatMap encE = xs at *
  clear hs hvt hrow hf hok
  go_enter Tryz.func12, Tryz.ntmps12
  go_wp2_with fail
  refine (HC.out).mono ?_
  rintro e w1 ⟨⟨v, rfl, ho⟩, HB⟩
  go_wp2_with fail
  go_ret
  exact ⟨⟨v, rfl, ho⟩, HB⟩

end Go.Proofs.YtpocmijfkjjboaaGreatDoor
