/- SiteEntries' walk: it returns true. -/
import Derived.Test.YtpocmijfkjjboaaSjC
import Derived.Deep.RegionHeld3
set_option linter.unusedVariables false
namespace Go.Proofs.Ytpocmijfkjjboaa
open Go.ChangeShapes Go.WideShapes Go.ChangeAt Go.RowKit

theorem At.c0' {w : World} {g : Nat} {t : TypeId} {x y z : Value} (h : At w g t #[x, y, z]) : w.cell? ⟨g, 0, none⟩ = some x := h.c 0
theorem At.c1' {w : World} {g : Nat} {t : TypeId} {x y z : Value} (h : At w g t #[x, y, z]) : w.cell? ⟨g, 1, none⟩ = some y := h.c 1
theorem At.c2' {w : World} {g : Nat} {t : TypeId} {x y z : Value} (h : At w g t #[x, y, z]) : w.cell? ⟨g, 2, none⟩ = some z := h.c 2
theorem large_no {l : List Bun} {m : ByteArray} {es : List Ent} (h : largeB l m es = false) : (∀ x ∈ l, x.tag.size ≤ 60 ∧ x.mark.size ≤ 60) ∧ m.size ≤ 60 ∧ es.length ≤ 25 ∧ ∀ x ∈ es, x.name.size ≤ 60 := by
  unfold largeB at h
  simp only [Bool.or_eq_false_iff, Bool.not_eq_false', decide_eq_false_iff_not] at h
  obtain ⟨⟨⟨h1, h2⟩, h3⟩, h4⟩ := h
  unfold shortB at h1
  unfold shortE at h4
  simp only [Bool.and_eq_true, List.all_eq_true, decide_eq_true_eq] at h1 h4
  exact ⟨h1.2, by omega, by omega, h4⟩
set_option maxRecDepth 100000 in
set_option maxHeartbeats 4000000 in
theorem siteEntries_core (l : List Bun) (m : ByteArray) (es : List Ent) (a1 a2 : Option Addr) (c1 c2 : Nat) (h1 : l.length ≤ c1) (h2 : es.length ≤ c2) (hc1 : c1 ≤ 9223372036854775807) (hc2 : c2 ≤ 9223372036854775807) (hf : (a1 = none ∧ l.length = 0 ∧ c1 = 0) ∨ ∃ b off, a1 = some ⟨b, off, none⟩) (w : World) (r1 : RowAt encB 4 w.heap.size w a1 l) (r2 : RowAt encE 3 w.heap.size w a2 es)
    (HW : Hid (∀ u, Below w.heap.size w u → Calls Try.prog 7 #[] u fun e w' => e = .returned (.bool true) ∧ Below u.heap.size u w')) :
    Calls Try.prog 3 #[.slice a1 l.length c1, .string m, .slice a2 es.length c2] w fun e w' => e = .returned (.bool true) ∧ Below w.heap.size w w' := by
  have up1 : Hid (∀ u, Below w.heap.size w u → RowAt encB 4 u.heap.size u a1 l) := Lib.hid fun u hb => (r1.bel (Nat.le_refl _) hb).mono hb.size
  have up2 : Hid (∀ u, Below w.heap.size w u → RowAt encE 3 u.heap.size u a2 es) := Lib.hid fun u hb => (r2.bel (Nat.le_refl _) hb).mono hb.size
  have HL := Lib.hid fun u (hb : Below w.heap.size w u) => large_any l m es a1 a2 c1 c2 h1 h2 hc1 hc2 u (up1.out u hb) (up2.out u hb)
  obtain ⟨lg, hlg⟩ : ∃ lg, largeB l m es = lg := ⟨_, rfl⟩
  rw [hlg] at HL
  have HNs : Hid (lg = false → ∀ u, Below w.heap.size w u → Calls Try.prog 9 #[.slice a1 l.length c1, .string m] u fun e w' => NewPost l m u e w') := Lib.hid fun hl u hb => new_any l m (large_no (hlg.trans hl)).2.1 a1 c1 h1 hc1 (Lib.hid (large_no (hlg.trans hl)).1) u (Lib.hid (up1.out u hb))
  have HNr : Hid (lg = false → ∀ u, Below w.heap.size w u → Calls Try.prog 10 #[.slice a1 l.length c1, .string m] u fun e w' => RNewPost l m u e w') := Lib.hid fun hl u hb => rnew_any l m (large_no (hlg.trans hl)).2.1 a1 c1 h1 hc1 (Lib.hid (large_no (hlg.trans hl)).1) hf u (Lib.hid (up1.out u hb))
  have hsm : Hid (lg = false → (newOk l m = true → (st0 l m).ok) ∧ es.length ≤ 25 ∧ ∀ x ∈ es, x.name.size ≤ 60) := Lib.hid fun hl => ⟨fun h => st0_ok l m h (large_no (hlg.trans hl)).1, (large_no (hlg.trans hl)).2.2⟩
  obtain ⟨n1, hn1⟩ : ∃ n, l.length = n := ⟨_, rfl⟩
  obtain ⟨n, hn⟩ : ∃ n, es.length = n := ⟨_, rfl⟩
  rw [hn1, hn] at HL
  rw [hn1] at HNs HNr ⊢
  rw [hn] at h2 hsm ⊢
  replace hn := Lib.hid hn
  clear hlg hn1 h1 hf r1 r2 hc1
  go_enter Try.func3, Try.ntmps3
  go_wp2_with fail
  refine (HW.out _ (Below.refl _ _)).mono ?_
  rintro e w1 ⟨rfl, HB⟩
  clear HW
  go_wp2_with fail
  refine (HL.out _ HB).mono ?_
  rintro e w2 ⟨rfl, hb2⟩
  replace HB := below_then HB hb2
  clear hb2 HL
  cases lg
  rotate_left
  · go_wp2_with fail
    go_ret
    exact ⟨rfl, HB⟩
  replace HNs := Lib.hid (HNs.out rfl)
  replace HNr := Lib.hid (HNr.out rfl)
  replace hsm := Lib.hid (hsm.out rfl)
  go_wp2_with fail
  refine (HNs.out _ HB).mono ?_
  rintro e w3 ⟨hbad, hgood, hb3⟩
  have HB3 := below_then HB hb3
  clear HNs
  obtain ⟨nk, hnk⟩ : ∃ nk, newOk l m = nk := ⟨_, rfl⟩
  rw [hnk] at hbad hgood hsm
  unfold RNewPost at HNr
  rw [hnk] at HNr
  clear hnk
  cases nk
  · obtain rfl := hbad rfl
    clear hgood hbad hsm
    go_wp2_with fail
    refine (HNr.out _ HB3).mono ?_
    rintro e w4 ⟨hbad, hgood, hb4⟩
    have hb0 := hbad (by first | rfl | trivial)
    subst hb0
    clear hgood hbad
    go_wp2_with fail
    go_ret
    exact ⟨rfl, below_then HB3 hb4⟩
  · obtain ⟨g, p, rfl, hs1, hfp⟩ := hgood rfl
    clear hgood hbad
    have hok0 := Lib.hid (hsm.out.1 rfl)
    replace hsm := Lib.hid hsm.out.2
    replace hs1 := Lib.hid hs1
    replace hfp := Lib.hid hfp
    go_wp2_with fail
    refine (HNr.out _ HB3).mono ?_
    rintro e w4 ⟨hbad, hgood, hb4⟩
    obtain ⟨h, q, rfl, ht1, hfq⟩ := hgood (by first | rfl | trivial)
    clear hgood hbad HNr
    have hD : Duo w.heap.size w4.heap.size w4 g h (st0 l m) (st0 l m) := ⟨p, q, hs1.out.bel hb4, ht1, fun b hb => ⟨Nat.le_trans HB.size (hfp.out b hb), by have := hs1.out.lt hb; have := hb4.size; omega⟩, fun b hb => ⟨Nat.le_trans HB3.size (hfq b hb), by have := ht1.lt hb; omega⟩, fun b hb hn => by have := hs1.out.lt hb; have := hfq b hn; omega⟩
    have HB4 := below_then HB3 hb4
    clear ht1 hfq hs1 hfp hb3 hb4 HB HB3
    obtain ⟨s0, hs0⟩ : ∃ s0, st0 l m = s0 := ⟨_, rfl⟩
    rw [hs0] at hD hok0
    clear hs0
    go_wp2_with fail
    refine (duo_same hD hok0.out).mono ?_
    rintro e w5 ⟨rfl, hb5⟩
    replace hD := hD.up hb5
    have HB5 := below_then HB4 hb5
    have hlt0 : g < w5.heap.size := by obtain ⟨p, q, k1, _⟩ := hD; exact k1.own.lt
    clear hb5 HB4
    have hD5 : Hid (∃ X, Duo w.heap.size X w5 g h s0 s0) := Lib.hid ⟨_, hD⟩
    clear hD hlt0
    go_wp2_with fail
    go_loopg [49] n (fun g1 i wr => ∃ (k : Nat) (s : St), k ≤ n ∧ i = .int .i64 (k : Int) ∧ Hid (g1 = n - k) ∧ Hid s.ok ∧ Hid (∃ X, Duo w.heap.size X wr g h s s) ∧ Below w.heap.size w wr)
    case atStart => exact ⟨0, s0, Nat.zero_le _, rfl, Lib.hid rfl, hok0, hD5, HB5⟩
    case round =>
      clear hD5 HB5 hok0
      obtain ⟨k, s, hk, rfl, hr, hok, hD, HB⟩ := hrel
      by_cases hlt : k < n
      · have hkl : Hid (k < es.length) := Lib.hid (by rw [hn.out]; exact hlt)
        obtain ⟨b, off, rfl, e0, e1, e2, hb⟩ := (up2.out wr HB).ent k hkl.out
        have hxz := Lib.hid (hsm.out.2 _ (List.getElem_mem hkl.out))
        obtain ⟨x, hx⟩ : ∃ x, es[k]'hkl.out = x := ⟨_, rfl⟩
        rw [hx] at e0 e1 e2 hxz
        clear hx hb
        obtain ⟨xd, xk, xn⟩ := x
        dsimp only at e0 e1 e2 hxz
        have hok2 := Lib.hid (doS_ok s hok.out ⟨xd, xk, xn⟩ hxz.out)
        go_upto_region 16 with fail
        generalize hWW : World.alloc _ _ = W1
        have kx : At W1 wr.heap.size 35 #[.int .i64 xd, .int .i64 xk, .string xn] := by rw [← hWW]; exact At.new' rfl
        have hbW : Below wr.heap.size wr W1 := by rw [← hWW]; exact below_al (Below.refl _ _) _
        have hD1 : Duo w.heap.size wr.heap.size W1 g h s s := by
          obtain ⟨X, hX⟩ := hD.out
          exact (hX.other wr.heap.size (Nat.le_refl _)).up hbW
        have HB1 := below_then HB hbW
        clear hWW hbW e0 e1 e2 hD HB
        have k0 := kx.c0'
        have k1 := kx.c1'
        have k2 := kx.c2'
        go_region_held3 (fun w' => Below w.heap.size w w' ∧ w'.cell? ⟨wr.heap.size, 0, none⟩ = some (.int .i64 xd) ∧ w'.cell? ⟨wr.heap.size, 1, none⟩ = some (.int .i64 xk) ∧ w'.cell? ⟨wr.heap.size, 2, none⟩ = some (.string xn)) ((first | ((try go_split_ands); refine ⟨?_, ?_, ?_, ?_⟩ <;> (first | ((repeat (first | with_reducible assumption | with_reducible exact Below.refl _ _ | with_reducible refine below_drew ?_ | with_reducible refine below_drewN ?_ _ | with_reducible refine below_le ?_ (by with_reducible assumption) | with_reducible refine below_then ?_ (by with_reducible assumption))); done) | ((first | with_reducible assumption | (with_reducible apply At.c0'; (repeat (first | with_reducible assumption | with_reducible apply At.drw | with_reducible refine At.bel ?_ (by with_reducible assumption))); done) | (with_reducible apply At.c1'; (repeat (first | with_reducible assumption | with_reducible apply At.drw | with_reducible refine At.bel ?_ (by with_reducible assumption))); done) | (with_reducible apply At.c2'; (repeat (first | with_reducible assumption | with_reducible apply At.drw | with_reducible refine At.bel ?_ (by with_reducible assumption))); done)); done))) | go_keep))
          (first
            | (go_at_call 12; refine (duo_do (B := w.heap.size) (X := wr.heap.size) (h := h) (s := s) (t := s) (cs := #[.int .i64 xd, .int .i64 xk, .string xn]) ?_ (Below.size (B := w.heap.size) (w := w) ?_) hok.out xd xk xn hxz.out ?_).mono ?_; (focus ((repeat (first | with_reducible assumption | with_reducible refine Duo.up (by with_reducible assumption) ?_ | with_reducible refine Duo.up (drew_bel _) ?_)); done)); (focus ((repeat (first | with_reducible assumption | with_reducible exact Below.refl _ _ | with_reducible refine below_drew ?_ | with_reducible refine below_drewN ?_ _ | with_reducible refine below_le ?_ (by with_reducible assumption) | with_reducible refine below_then ?_ (by with_reducible assumption))); done)); (focus ((repeat (first | with_reducible assumption | with_reducible apply At.drw | with_reducible refine At.bel ?_ (by with_reducible assumption))); done)); rintro e w' ⟨rfl, hd1, kx1, hb1⟩)
            | (go_at_call 13; refine (duo_rdo (B := w.heap.size) (X := wr.heap.size) (g := g) (s := (doS s ⟨xd, xk, xn⟩).2) (t := s) (cs := #[.int .i64 xd, .int .i64 xk, .string xn]) ?_ (Below.size (B := w.heap.size) (w := w) ?_) hok.out xd xk xn hxz.out ?_).mono ?_; (focus ((repeat (first | with_reducible assumption | with_reducible refine Duo.up (by with_reducible assumption) ?_ | with_reducible refine Duo.up (drew_bel _) ?_)); done)); (focus ((repeat (first | with_reducible assumption | with_reducible exact Below.refl _ _ | with_reducible refine below_drew ?_ | with_reducible refine below_drewN ?_ _ | with_reducible refine below_le ?_ (by with_reducible assumption) | with_reducible refine below_then ?_ (by with_reducible assumption))); done)); (focus ((repeat (first | with_reducible assumption | with_reducible apply At.drw | with_reducible refine At.bel ?_ (by with_reducible assumption))); done)); rintro e w' ⟨rfl, hd2, kx2, hb2⟩)
            | (go_at_call 11; refine (duo_same (B := w.heap.size) (X := wr.heap.size) (s := (doS s ⟨xd, xk, xn⟩).2) ?_ hok2.out).mono ?_; (focus ((repeat (first | with_reducible assumption | with_reducible refine Duo.up (by with_reducible assumption) ?_ | with_reducible refine Duo.up (drew_bel _) ?_)); done)); rintro e w' ⟨rfl, hb3⟩; have kx3 := At.bel kx2 hb3))
        all_goals
          have hD9 : Hid (∃ X, Duo w.heap.size X w' g h (doS s ⟨xd, xk, xn⟩).2 (doS s ⟨xd, xk, xn⟩).2) := Lib.hid ⟨_, hd2.up hb3⟩
          go_wp2_with fail
          go_roundg (n - (k + 1))
          case measure => have := hr.out; omega
          case rel => exact ⟨k + 1, _, by omega, by go_num, Lib.hid rfl, hok2, hD9, by repeat (first | with_reducible assumption | with_reducible exact Below.refl _ _ | with_reducible refine below_drew ?_ | with_reducible refine below_drewN ?_ _ | with_reducible refine below_le ?_ (by with_reducible assumption) | with_reducible refine below_then ?_ (by with_reducible assumption))⟩
      · go_wp2_with fail
        go_ret
        exact ⟨rfl, HB⟩

end Go.Proofs.Ytpocmijfkjjboaa
