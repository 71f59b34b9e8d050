/- site's laws: the chapter's example holds. -/
import Derived.Test.YtpocmijfkjjboaaSiX
import Derived.Test.YtpocmijfkjjboaaSiL
import Derived.Test.YtpocmijfkjjboaaSiW
set_option linter.unusedVariables false
namespace Go.Proofs.Ytpocmijfkjjboaa
open Go.ChangeShapes Go.WideShapes Go.ChangeAt Go.RowKit

def exL : List Bun := [⟨⟨#[120]⟩, ⟨#[97]⟩, 1, 1⟩, ⟨⟨#[121]⟩, ⟨#[97]⟩, 1, 1⟩]
def exM : ByteArray := ⟨#[109]⟩
def exE : Nat → Ent
  | 0 => ⟨0, 1, ⟨#[120]⟩⟩
  | 1 => ⟨0, 1, ⟨#[121]⟩⟩
  | _ => ⟨1, 2, ⟨#[120]⟩⟩
def exS : Nat → St
  | 0 => st0 exL exM
  | k + 1 => (doS (exS k) (exE k)).2
def exC : Array Value := #[.int .i64 0, .int .i64 1, .string ⟨#[120]⟩, .int .i64 0, .int .i64 1, .string ⟨#[121]⟩, .int .i64 1, .int .i64 2, .string ⟨#[120]⟩]
theorem ex_new : newOk exL exM = true := by decide +kernel
theorem ex_do0 : (doS (exS 0) (exE 0)).1 = 0 := by decide +kernel
theorem ex_do1 : (doS (exS 1) (exE 1)).1 = 0 := by decide +kernel
theorem ex_do2 : (doS (exS 2) (exE 2)).1 = 0 := by decide +kernel
theorem ex_acc : (exS 3).at_.count 0 = 0 ∧ (exS 3).at_.count 1 = 1 ∧ (exS 3).at_.count 2 = 1 := by decide +kernel
theorem ex_miss : missS (exS 3).tags (exS 3).at_ = [⟨#[121]⟩] := by decide +kernel
def ex4 : St := (doS (exS 3) ⟨1, 5, exM⟩).2
def ex5 : St := (doS ex4 ⟨2, 2, ⟨#[121]⟩⟩).2
theorem ex_do3 : (doS (exS 3) ⟨1, 5, exM⟩).1 = 24 := by decide +kernel
theorem ex_do4 : (doS ex4 ⟨2, 2, ⟨#[121]⟩⟩).1 = 0 := by decide +kernel
theorem ex_do5 : (doS ex5 ⟨3, 5, exM⟩).1 = 0 := by decide +kernel
theorem exS_ok : ∀ k, (exS k).ok
  | 0 => st0_ok exL exM ex_new (by intro x hx; simp [exL] at hx; rcases hx with rfl | rfl <;> decide)
  | k + 1 => doS_ok _ (exS_ok k) _ (by unfold exE; split <;> decide)
def One (B X : Nat) (w : World) (g : Nat) (s : St) : Prop := ∃ p, SiteW w g s p ∧ ∀ b, some b ∈ p.fp g → B ≤ b ∧ b ≠ X
section
variable {B X : Nat} {w w' u : World} {g : Nat} {s : St}
theorem One.up (hb : Below w.heap.size w w') (hd : One B X w g s) : One B X w' g s := by
  obtain ⟨p, h1, h3⟩ := hd
  exact ⟨p, h1.bel hb, h3⟩
theorem One.other (Y : Nat) (hY : w.heap.size ≤ Y) (hd : One B X w g s) : One B Y w g s := by
  obtain ⟨p, h1, h3⟩ := hd
  exact ⟨p, h1, fun b hb => ⟨(h3 b hb).1, by have := h1.lt hb; omega⟩⟩
theorem one_do (hd : One B X u g s) (hB : B ≤ u.heap.size) (hok : s.ok) (xd xk : Int) (xn : ByteArray) (hz : xn.size ≤ 60) {cs : Array Value} (kx : At u X 35 cs) :
    Calls Try.prog 12 #[.pointer (some ⟨g, 0, none⟩), .agg #[.int .i64 xd, .int .i64 xk, .string xn]] u fun e w' => e = .returned (.int .i64 (doS s ⟨xd, xk, xn⟩).1) ∧ One B X w' g (doS s ⟨xd, xk, xn⟩).2 ∧ At w' X 35 cs ∧ Below B u w' := by
  obtain ⟨p, h1, h3⟩ := hd
  refine (do_any s hok xd xk xn hz g p u h1).mono ?_
  rintro e w' ⟨rfl, p', k1, k2, k3⟩
  refine ⟨rfl, ⟨p', k1, fun b hb => ?_⟩, (k2.block X kx.lt (fun hm => (h3 X hm).2 rfl)).trans kx, k2.below hB fun x hx => (h3 x hx).1⟩
  rcases k3 b hb with r | r
  · exact h3 b r
  · exact ⟨Nat.le_trans hB r, by have := kx.lt; omega⟩
end
set_option maxRecDepth 100000 in
theorem example_any (w : World) : Calls Try.prog 24 #[] w fun e w' => e = .returned (.slice (some ⟨w.heap.size, 0, none⟩) 2 2) ∧ RowAt encB 4 w'.heap.size w' (some ⟨w.heap.size, 0, none⟩) exL ∧ Below w.heap.size w w' := by
  go_enter Try.func24, Try.ntmps24
  go_wp2_with fail
  generalize hWW : World.alloc _ _ = W1
  have kx : At W1 w.heap.size 62 #[.string ⟨#[120]⟩, .string ⟨#[97]⟩, .int .i64 1, .int .i64 1, .string ⟨#[121]⟩, .string ⟨#[97]⟩, .int .i64 1, .int .i64 1] := by rw [← hWW]; exact At.new' rfl
  have HB : Below w.heap.size w W1 := by rw [← hWW]; exact below_al (Below.refl _ _) _
  clear hWW
  go_ret
  refine ⟨rfl, ?_, HB⟩
  intro k hk
  refine ⟨w.heap.size, 0, rfl, kx.lt, fun j u hu => ?_⟩
  have hk2 : k = 0 ∨ k = 1 := by simp [exL] at hk; omega
  rcases hk2 with rfl | rfl
  · rw [kx.c, ← hu]
    have hj : j < 4 := (List.getElem?_eq_some_iff.1 hu).1
    rcases j with _ | _ | _ | _ | j <;> first | rfl | omega
  · rw [kx.c, ← hu]
    have hj : j < 4 := (List.getElem?_eq_some_iff.1 hu).1
    rcases j with _ | _ | _ | _ | j <;> first | rfl | omega

set_option maxRecDepth 100000 in
set_option maxHeartbeats 4000000 in
theorem awake_any (w : World) : Calls Try.prog 7 #[] w fun e w' => e = .returned (.bool true) ∧ Below w.heap.size w w' := by
  go_enter Try.func7, Try.ntmps7
  go_wp2_with fail
  refine (example_any _).mono ?_
  rintro e w1 ⟨rfl, hrow, HB⟩
  replace hrow := Lib.hid hrow
  go_wp2_with fail
  refine (new_any exL exM (by decide) (some ⟨w.heap.size, 0, none⟩) 2 (by decide) (by decide) (Lib.hid (by intro x hx; simp [exL] at hx; rcases hx with rfl | rfl <;> decide)) w1 hrow).mono ?_
  rintro e w2 ⟨-, hgood, hb2⟩
  obtain ⟨g, p, rfl, hs1, hfp⟩ := hgood ex_new
  have hO : One w.heap.size w2.heap.size w2 g (exS 0) := ⟨p, hs1, fun b hb => ⟨Nat.le_trans HB.size (hfp b hb), by have := hs1.lt hb; omega⟩⟩
  replace HB := below_then HB hb2
  clear hgood hb2 hs1 hfp hrow
  go_upto_region 5 with fail
  obtain ⟨E, hE⟩ : ∃ E, w2.heap.size = E := ⟨_, rfl⟩
  generalize hWW : World.alloc _ _ = W3
  have kE : At W3 E 35 exC := by rw [← hWW]; exact At.new' hE.symm
  have hbW : Below w2.heap.size w2 W3 := by rw [← hWW]; exact below_al (Below.refl _ _) _
  have hO3 : Hid (One w.heap.size E W3 g (exS 0)) := Lib.hid (by rw [← hE]; exact hO.up hbW)
  replace HB := below_then HB hbW
  rw [hE]
  clear hWW hbW hE hO
  go_wp2_with fail
  go_loopg [24] 3 (fun g1 i wr => ∃ k : Nat, k ≤ 3 ∧ i = .int .i64 (k : Int) ∧ Hid (g1 = 3 - k) ∧ Hid (One w.heap.size E wr g (exS k)) ∧ At wr E 35 exC ∧ Below w.heap.size w wr)
  case atStart => exact ⟨0, by omega, rfl, Lib.hid rfl, hO3, kE, HB⟩
  case round =>
    clear hO3 kE HB
    obtain ⟨k, hk, rfl, hr, hO, kE, HB⟩ := hrel
    have hk4 : k = 0 ∨ k = 1 ∨ k = 2 ∨ k = 3 := by omega
    clear hk
    rcases hk4 with rfl | rfl | rfl | rfl
    · have e0 : wr.cell? ⟨E, 0, none⟩ = some (.int .i64 0) := kE.c 0
      have e1 : wr.cell? ⟨E, 1, none⟩ = some (.int .i64 1) := kE.c 1
      have e2 : wr.cell? ⟨E, 2, none⟩ = some (.string ⟨#[120]⟩) := kE.c 2
      go_upto_region 7 with fail
      generalize hWW : World.alloc _ _ = W1
      have kx : At W1 wr.heap.size 35 #[.int .i64 0, .int .i64 1, .string ⟨#[120]⟩] := by rw [← hWW]; exact At.new' rfl
      have hbW : Below wr.heap.size wr W1 := by rw [← hWW]; exact below_al (Below.refl _ _) _
      have hO1 := Lib.hid (hO.out.up hbW)
      replace kE := At.bel kE hbW
      replace HB := below_then HB hbW
      clear hWW hbW e0 e1 e2 hO
      obtain ⟨x0, x1, x2⟩ := kx.three
      go_wp2_with fail
      refine (one_do (B := w.heap.size) (X := E) hO1.out HB.size (exS_ok 0) 0 1 ⟨#[120]⟩ (by decide) kE).mono ?_
      rintro e w6 ⟨rfl, hO6, kE6, hb6⟩
      have hc : (doS (exS 0) ⟨0, 1, ⟨#[120]⟩⟩).1 = 0 := ex_do0
      rw [hc]
      replace hO6 : Hid (One w.heap.size E w6 g (exS 1)) := Lib.hid hO6
      have HB6 := HB.trans hb6
      clear hc x0 x1 x2 kx hO1 kE HB hb6
      go_wp2_with fail
      go_roundg (3 - (0 + 1))
      case measure => have := hr.out; omega
      case rel => exact ⟨0 + 1, by omega, by go_num, Lib.hid rfl, hO6, kE6, HB6⟩
    · have e0 : wr.cell? ⟨E, 3, none⟩ = some (.int .i64 0) := kE.c 3
      have e1 : wr.cell? ⟨E, 4, none⟩ = some (.int .i64 1) := kE.c 4
      have e2 : wr.cell? ⟨E, 5, none⟩ = some (.string ⟨#[121]⟩) := kE.c 5
      go_upto_region 7 with fail
      generalize hWW : World.alloc _ _ = W1
      have kx : At W1 wr.heap.size 35 #[.int .i64 0, .int .i64 1, .string ⟨#[121]⟩] := by rw [← hWW]; exact At.new' rfl
      have hbW : Below wr.heap.size wr W1 := by rw [← hWW]; exact below_al (Below.refl _ _) _
      have hO1 := Lib.hid (hO.out.up hbW)
      replace kE := At.bel kE hbW
      replace HB := below_then HB hbW
      clear hWW hbW e0 e1 e2 hO
      obtain ⟨x0, x1, x2⟩ := kx.three
      go_wp2_with fail
      refine (one_do (B := w.heap.size) (X := E) hO1.out HB.size (exS_ok 1) 0 1 ⟨#[121]⟩ (by decide) kE).mono ?_
      rintro e w6 ⟨rfl, hO6, kE6, hb6⟩
      have hc : (doS (exS 1) ⟨0, 1, ⟨#[121]⟩⟩).1 = 0 := ex_do1
      rw [hc]
      replace hO6 : Hid (One w.heap.size E w6 g (exS 2)) := Lib.hid hO6
      have HB6 := HB.trans hb6
      clear hc x0 x1 x2 kx hO1 kE HB hb6
      go_wp2_with fail
      go_roundg (3 - (1 + 1))
      case measure => have := hr.out; omega
      case rel => exact ⟨1 + 1, by omega, by go_num, Lib.hid rfl, hO6, kE6, HB6⟩
    · have e0 : wr.cell? ⟨E, 6, none⟩ = some (.int .i64 1) := kE.c 6
      have e1 : wr.cell? ⟨E, 7, none⟩ = some (.int .i64 2) := kE.c 7
      have e2 : wr.cell? ⟨E, 8, none⟩ = some (.string ⟨#[120]⟩) := kE.c 8
      go_upto_region 7 with fail
      generalize hWW : World.alloc _ _ = W1
      have kx : At W1 wr.heap.size 35 #[.int .i64 1, .int .i64 2, .string ⟨#[120]⟩] := by rw [← hWW]; exact At.new' rfl
      have hbW : Below wr.heap.size wr W1 := by rw [← hWW]; exact below_al (Below.refl _ _) _
      have hO1 := Lib.hid (hO.out.up hbW)
      replace kE := At.bel kE hbW
      replace HB := below_then HB hbW
      clear hWW hbW e0 e1 e2 hO
      obtain ⟨x0, x1, x2⟩ := kx.three
      go_wp2_with fail
      refine (one_do (B := w.heap.size) (X := E) hO1.out HB.size (exS_ok 2) 1 2 ⟨#[120]⟩ (by decide) kE).mono ?_
      rintro e w6 ⟨rfl, hO6, kE6, hb6⟩
      have hc : (doS (exS 2) ⟨1, 2, ⟨#[120]⟩⟩).1 = 0 := ex_do2
      rw [hc]
      replace hO6 : Hid (One w.heap.size E w6 g (exS 3)) := Lib.hid hO6
      have HB6 := HB.trans hb6
      clear hc x0 x1 x2 kx hO1 kE HB hb6
      go_wp2_with fail
      go_roundg (3 - (2 + 1))
      case measure => have := hr.out; omega
      case rel => exact ⟨2 + 1, by omega, by go_num, Lib.hid rfl, hO6, kE6, HB6⟩
    · have hp : Hid (One w.heap.size E wr g (exS 3)) := hO
      have HA : Hid (∀ u, Below wr.heap.size wr u → Calls Try.prog 14 #[.pointer (some ⟨g, 0, none⟩)] u fun e w' => e = .returned (.tuple #[.int .i64 0, .int .i64 1, .int .i64 1]) ∧ Below u.heap.size u w') := Lib.hid fun u hb => by
        obtain ⟨p, h1, _⟩ := hO.out.up hb
        have := account_any (exS 3) (exS_ok 3) g p u h1
        rw [ex_acc.1, ex_acc.2.1, ex_acc.2.2] at this
        exact this
      have HM : Hid (∀ u, Below wr.heap.size wr u → Calls Try.prog 15 #[.pointer (some ⟨g, 0, none⟩)] u fun e w' => (∃ v, e = .returned v ∧ IsS [⟨#[121]⟩] v w') ∧ Below u.heap.size u w') := Lib.hid fun u hb => by
        obtain ⟨p, h1, _⟩ := hO.out.up hb
        have := missing_any (exS 3) (exS_ok 3) g p u h1
        rw [ex_miss] at this
        exact this.mono fun e w' ⟨⟨v, e1, e2⟩, e3⟩ => ⟨⟨v, e1, row_isS e2.out⟩, e3⟩
      clear hp
      go_wp2_with fail
      refine (HA.out _ (Below.refl _ _)).mono ?_
      rintro e w5 ⟨rfl, hb5⟩
      go_wp2_with fail
      refine (HM.out _ hb5).mono ?_
      rintro e w6 ⟨⟨v, rfl, hv⟩, hb6⟩
      have hb56 := below_then hb5 hb6
      clear HA HM hb5 hb6
      go_wp2_with fail
      generalize hWW : World.alloc _ _ = W7
      have hb7 : Below w6.heap.size w6 W7 := by rw [← hWW]; exact below_al (Below.refl _ _) _
      have ky : At W7 w6.heap.size 9 #[.string ⟨#[121]⟩] := by rw [← hWW]; exact At.new' rfl
      have hy : IsS [⟨#[121]⟩] (.slice (some ⟨w6.heap.size, 0, none⟩) 1 1) W7 := ⟨_, _, rfl, Nat.le_refl _, by decide, fun k hk => ⟨w6.heap.size, 0, rfl, ky.lt, fun j u hu => by
        have hk0 : k = 0 := by simpa using hk
        subst hk0
        have hj : j < 1 := (List.getElem?_eq_some_iff.1 hu).1
        obtain rfl : j = 0 := by omega
        rw [← hu]
        exact ky.c 0⟩⟩
      clear hWW
      refine (eqvS_any [⟨#[121]⟩] _ _ _ (by decide) (hv.up hb7) hy).mono ?_
      rintro e w8 ⟨rfl, hb8⟩
      have hb9 := below_then (below_then hb56 hb7) hb8
      have hO9 := Lib.hid (hO.out.up hb9)
      have kE9 := At.bel kE hb9
      have HB9 := below_then HB hb9
      clear hv hy ky hb7 hb8 hb56 hb9 hO kE HB
      go_wp2_with fail
      refine (one_do (B := w.heap.size) (X := E) hO9.out HB9.size (exS_ok 3) 1 5 ⟨#[109]⟩ (by decide) kE9).mono ?_
      rintro e wa ⟨rfl, hOa, kEa, hba⟩
      have hc : (doS (exS 3) ⟨1, 5, ⟨#[109]⟩⟩).1 = 24 := ex_do3
      rw [hc]
      replace hOa : Hid (One w.heap.size E wa g ex4) := Lib.hid hOa
      have HBa := HB9.trans hba
      clear hc hO9 kE9 HB9 hba
      go_wp2_with fail
      refine (one_do (B := w.heap.size) (X := E) hOa.out HBa.size (doS_ok _ (exS_ok 3) _ (by decide)) 2 2 ⟨#[121]⟩ (by decide) kEa).mono ?_
      rintro e wb ⟨rfl, hOb, kEb, hbb⟩
      have hc : (doS ex4 ⟨2, 2, ⟨#[121]⟩⟩).1 = 0 := ex_do4
      rw [hc]
      replace hOb : Hid (One w.heap.size E wb g ex5) := Lib.hid hOb
      have HBb := HBa.trans hbb
      clear hc hOa kEa HBa hbb
      go_wp2_with fail
      refine (one_do (B := w.heap.size) (X := E) hOb.out HBb.size (doS_ok _ (doS_ok _ (exS_ok 3) _ (by decide)) _ (by decide)) 3 5 ⟨#[109]⟩ (by decide) kEb).mono ?_
      rintro e wc ⟨rfl, hOc, kEc, hbc⟩
      have hc : (doS ex5 ⟨3, 5, ⟨#[109]⟩⟩).1 = 0 := ex_do5
      rw [hc]
      have HBc := HBb.trans hbc
      clear hc hOb kEb HBb hbc hOc kEc
      go_wp2_with fail
      go_ret
      exact ⟨rfl, HBc⟩

end Go.Proofs.Ytpocmijfkjjboaa
