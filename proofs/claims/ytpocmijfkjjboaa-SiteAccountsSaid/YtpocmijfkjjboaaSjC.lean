/- site's laws: a site and the reference's side by side. -/
import Derived.Test.YtpocmijfkjjboaaSiL
import Derived.Test.YtpocmijfkjjboaaSiW
import Derived.Test.YtpocmijfkjjboaaSjB
import Derived.Test.YtpocmijfkjjboaaSiY
set_option linter.unusedVariables false
namespace Go.Proofs.Ytpocmijfkjjboaa
open Go.ChangeShapes Go.WideShapes Go.ChangeAt Go.RowKit

theorem same_any (s : St) (hok : s.ok) (g h : Nat) (p : SV) (q : RV) (w : World) (hs : SiteW w g s p) (ht : RefW w h s q) :
    Calls Try.prog 11 #[.pointer (some ⟨g, 0, none⟩), .pointer (some ⟨h, 0, none⟩)] w fun e w' => e = .returned (.bool true) ∧ Below w.heap.size w w' := by
  have hm := miss_len s.tags s.at_
  have h1 := hok.tagsN
  have h2 := hok.openN
  have h3 := hok.keptN
  exact same_core g h _ _ _ (missS s.tags s.at_) s.open_ s.kept (readyS s) q.vc q.vk (by omega) (by omega) (by omega) w (ht.own.c 3) (ht.own.c 4)
    (row_isS (base := 0) ht.opn) (row_isE (base := 0) ht.ents)
    (Lib.hid fun u hb => account_any s hok g p u (hs.bel hb)) (Lib.hid fun u hb => refaccount_any s hok h q u (ht.bel hb))
    (Lib.hid fun u hb => (missing_any s hok g p u (hs.bel hb)).mono fun e w' ⟨⟨v, e1, e2⟩, e3⟩ => ⟨⟨v, e1, row_isS e2.out⟩, e3⟩)
    (Lib.hid fun u hb => (refmissing_any s hok h q u (ht.bel hb)).mono fun e w' ⟨⟨v, e1, e2⟩, e3⟩ => ⟨⟨v, e1, row_isS e2.out⟩, e3⟩)
    (Lib.hid fun u hb => (open_any s hok g p u (hs.bel hb)).mono fun e w' ⟨⟨v, e1, e2⟩, e3⟩ => ⟨⟨v, e1, row_isS e2.out⟩, e3⟩)
    (Lib.hid fun u hb => ready_any s hok g p u (hs.bel hb)) (Lib.hid fun u hb => refready_any s hok h q u (ht.bel hb))
    (Lib.hid fun u hb => (entries_any s hok g p u (hs.bel hb)).mono fun e w' ⟨⟨v, e1, e2⟩, e3⟩ => ⟨⟨v, e1, row_isE e2.out⟩, e3⟩)
/-- A site in state s and the reference's in state t, apart from each other, in blocks from B on, apart from the block X. -/
def Duo (B X : Nat) (w : World) (g h : Nat) (s t : St) : Prop :=
  ∃ p q, SiteW w g s p ∧ RefW w h t q ∧ (∀ b, some b ∈ p.fp g → B ≤ b ∧ b ≠ X) ∧ (∀ b, some b ∈ q.fp h → B ≤ b ∧ b ≠ X) ∧ ∀ b, some b ∈ p.fp g → some b ∉ q.fp h
section
variable {B X : Nat} {w w' u : World} {g h : Nat} {s t : St}
theorem Duo.up (hb : Below w.heap.size w w') (hd : Duo B X w g h s t) : Duo B X w' g h s t := by
  obtain ⟨p, q, h1, h2, h3⟩ := hd
  exact ⟨p, q, h1.bel hb, h2.bel hb, h3⟩
theorem Duo.other (Y : Nat) (hY : w.heap.size ≤ Y) (hd : Duo B X w g h s t) : Duo B Y w g h s t := by
  obtain ⟨p, q, h1, h2, h3, h4, h5⟩ := hd
  exact ⟨p, q, h1, h2, fun b hb => ⟨(h3 b hb).1, by have := h1.lt hb; omega⟩, fun b hb => ⟨(h4 b hb).1, by have := h2.lt hb; omega⟩, h5⟩
theorem duo_do (hd : Duo B X u g h s t) (hB : B ≤ u.heap.size) (hok : s.ok) (xd xk : Int) (xn : ByteArray) (hz : xn.size ≤ 60) {cs : Array Value} (kx : At u X 35 cs) :
    Calls Try.prog 12 #[.pointer (some ⟨g, 0, none⟩), .agg #[.int .i64 xd, .int .i64 xk, .string xn]] u fun e w' => e = .returned (.int .i64 (doS s ⟨xd, xk, xn⟩).1) ∧ Duo B X w' g h (doS s ⟨xd, xk, xn⟩).2 t ∧ At w' X 35 cs ∧ Below B u w' := by
  obtain ⟨p, q, h1, h2, h3, h4, h5⟩ := hd
  refine (do_any s hok xd xk xn hz g p u h1).mono ?_
  rintro e w' ⟨rfl, p', k1, k2, k3⟩
  refine ⟨rfl, ⟨p', q, k1, h2.frm k2 fun b hb hn => h5 b hn hb, fun b hb => ?_, h4, fun b hb hn => ?_⟩, (k2.block X kx.lt (fun hm => (h3 X hm).2 rfl)).trans kx, k2.below hB fun x hx => (h3 x hx).1⟩
  · rcases k3 b hb with r | r
    · exact h3 b r
    · exact ⟨Nat.le_trans hB r, by have := kx.lt; omega⟩
  · rcases k3 b hb with r | r
    · exact h5 b r hn
    · have := h2.lt hn
      omega
theorem duo_rdo (hd : Duo B X u g h s t) (hB : B ≤ u.heap.size) (hok : t.ok) (xd xk : Int) (xn : ByteArray) (hz : xn.size ≤ 60) {cs : Array Value} (kx : At u X 35 cs) :
    Calls Try.prog 13 #[.pointer (some ⟨h, 0, none⟩), .agg #[.int .i64 xd, .int .i64 xk, .string xn]] u fun e w' => e = .returned (.int .i64 (doS t ⟨xd, xk, xn⟩).1) ∧ Duo B X w' g h s (doS t ⟨xd, xk, xn⟩).2 ∧ At w' X 35 cs ∧ Below B u w' := by
  obtain ⟨p, q, h1, h2, h3, h4, h5⟩ := hd
  refine (rdo_any t hok xd xk xn hz h q u h2).mono ?_
  rintro e w' ⟨rfl, q', k1, k2, k3⟩
  refine ⟨rfl, ⟨p, q', h1.frm k2 fun b hb hn => h5 b hb hn, k1, h3, fun b hb => ?_, fun b hb hn => ?_⟩, (k2.block X kx.lt (fun hm => (h4 X hm).2 rfl)).trans kx, k2.below hB fun x hx => (h4 x hx).1⟩
  · rcases k3 b hb with r | r
    · exact h4 b r
    · exact ⟨Nat.le_trans hB r, by have := kx.lt; omega⟩
  · rcases k3 b hn with r | r
    · exact h5 b hb r
    · have := h1.lt hb
      omega
theorem duo_same (hd : Duo B X u g h s s) (hok : s.ok) : Calls Try.prog 11 #[.pointer (some ⟨g, 0, none⟩), .pointer (some ⟨h, 0, none⟩)] u fun e w' => e = .returned (.bool true) ∧ Below u.heap.size u w' := by
  obtain ⟨p, q, h1, h2, _⟩ := hd
  exact same_any s hok g h p q u h1 h2
end
theorem below_le {a u w : World} (h : Below a.heap.size a u) (k : Below a.heap.size u w) : Below a.heap.size a w := h.trans k

end Go.Proofs.Ytpocmijfkjjboaa
