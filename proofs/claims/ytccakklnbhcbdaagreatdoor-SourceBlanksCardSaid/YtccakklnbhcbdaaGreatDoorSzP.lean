/- source: Names, what it reads; how many things a source has. -/
import Derived.Test.YtccakklnbhcbdaaGreatDoorQk
import Derived.Test.YtccakklnbhcbdaaGreatDoorSzS
set_option linter.unusedVariables false
set_option linter.unusedSimpArgs false
namespace Go.Proofs.YtccakklnbhcbdaaGreatDoor
open Go.ChangeShapes Go.WideShapes Go.ChangeAt Go.RowKit

theorem lines_few {ts : List Tk} (hE : Ends ts) : ∀ (f : Nat) (s s' : Rd), linesT ts f s = .ok s' → s.i < ts.length → manyD s.d ≤ s.i → manyD s'.d ≤ 1000000
  | 0, s, s', h, hi, hm => by
    rw [linesT] at h
    injection h with h
    have := hE.len
    subst h
    omega
  | f + 1, s, s', h, hi, hm => by
    rw [linesT] at h
    split at h
    · injection h with h
      have := hE.len
      subst h
      omega
    · split at h
      · cases h
      · rename_i s1 h1
        obtain ⟨u1, u2, u3⟩ := other_up hE hi h1 hm
        exact lines_few hE f s1 s' h u2 u3
theorem readS_few (l : List UInt8) : manyD (readS l).1 ≤ 1000000 := by
  by_cases h0 : (tokS l).2.2 = 0
  · obtain ⟨hE, hpos, -, -⟩ := tokS_ends h0
    cases hr : readT (tokS l).1 with
    | error j => rw [readS_err h0 hr]; exact Nat.zero_le _
    | ok d =>
      rw [readS_ok h0 hr]
      generalize (tokS l).1 = ts at *
      have hi0 := (skip_lt hE ts.length 0 hpos).2
      by_cases hy : (tk ts (skipT ts ts.length 0)).kind = 1 ∧ (tk ts (skipT ts ts.length 0)).text = wMember
      · rw [readT_yes hy] at hr
        have hi1 := hE.more _ hi0 (by rw [hy.1]; decide)
        cases hb : bodyT ts wMember ⟨skipT ts ts.length 0, det0, false⟩ with
        | error e => rw [hb] at hr; cases hr
        | ok s =>
          rw [hb] at hr
          have hu := body_up hE (s := ⟨skipT ts ts.length 0, det0, false⟩) hi1 hb (Nat.zero_le _)
          have hr : linesR (linesT ts ts.length s) = .ok d := hr
          cases hl : linesT ts ts.length s with
          | error e => rw [hl] at hr; cases hr
          | ok s' =>
            rw [hl] at hr
            have := lines_few hE _ _ _ hl hu.2.1 hu.2.2
            have hr : (if s'.ruled then Except.ok s'.d else .error s'.i) = .ok d := hr
            split at hr
            · injection hr with hr
              exact hr ▸ this
            · cases hr
      · rw [readT_no hy] at hr
        cases hr
  · rw [readS_of_tok h0]
    exact Nat.zero_le _
def marksD (d : Det) : List ByteArray := d.bars.map fun b => ⟨b.1.toArray⟩
def namesD (d : Det) : List ByteArray := d.dems.map fun b => ⟨b.1.toArray⟩
/-- How Names ends. -/
def NamesE (R : Det × (Int × Int) × Int) (w : World) (e : Ending) (w' : World) : Prop :=
  ∃ v1 v2, e = .returned (.tuple #[v1, v2, .agg #[.int .i64 R.2.1.1, .int .i64 R.2.1.2], .int .i64 R.2.2]) ∧ IsS (marksD R.1) v1 w' ∧ IsS (namesD R.1) v2 w' ∧ Below w.heap.size w w'
theorem NamesE.mk {d : Det} {L C E : Int} {w w' : World} {v1 v2 : Value} (h1 : IsS (marksD d) v1 w') (h2 : IsS (namesD d) v2 w') (hb : Below w.heap.size w w') : NamesE (d, (L, C), E) w (.returned (.tuple #[v1, v2, .agg #[.int .i64 L, .int .i64 C], .int .i64 E])) w' := ⟨v1, v2, rfl, h1, h2, hb⟩
theorem isS_nil (w : World) : IsS [] (.slice none 0 0) w := ⟨none, 0, rfl, Nat.le_refl _, Nat.zero_le _, RowAt.nil _ _⟩
def IsSlc (v : Value) : Prop := ∃ a n c, v = .slice a n c
theorem grown_z {a w w5 : World} {Z n : Nat} {e : TypeId} {sz : Nat} {v : Value} {xs : List Value} (hZ : a.heap.size = Z) (h : Below Z a w) (ho : w.ownsRow Z e sz v n xs) (hg : w.grownBy w5 v.ownBlock) : Below Z a w5 := by
  subst hZ
  exact below_grown h hg fun b hb => (own_lt ho hb).2
theorem setCell_self2 {w : World} {B : Nat} {t : TypeId} (h : At w B t #[.int .i64 0, .int .i64 0]) : (w.setCell ⟨B, 0, none⟩ (.int .i64 0)).setCell ⟨B, 1, none⟩ (.int .i64 0) = w := by
  rw [At.setSelf (j := 0) (v := .int .i64 0) h rfl, At.setSelf (j := 1) (v := .int .i64 0) h rfl]

end Go.Proofs.YtccakklnbhcbdaaGreatDoor
