/- ratio.Sum. -/
import Derived.Test.YtpijmjffobkalaaDoorRaT1
import Derived.Test.YtpijmjffobkalaaDoorMLa
import Derived.Deep.LoopGhost
set_option linter.unusedVariables false
namespace Go.Proofs.YtpijmjffobkalaaDoor
open Go.ChangeShapes Go.WideShapes Go.ChangeAt Go.RowKit

/-- The reference's Text, by its value. -/
theorem refsz (n : Int) (h : -9223372036854775808 ≤ n ∧ n ≤ 9223372036854775807) : Hid (∀ w, Calls Tryd.prog 49 #[.int .i64 n] w fun e w' => e = .returned (.int .u64 (n.natAbs : Int)) ∧ Below w.heap.size w w') := Lib.hid fun w => (rsz_any n h w).mono fun _ _ ⟨a, b⟩ => ⟨a, by rw [← b]; exact Below.refl _ _⟩
theorem reftext_any (n d : Int) (hf : fracB n d = true) (w : World) :
    Calls Tryd.prog 35 #[.agg #[.int .i64 n, .int .i64 d]] w fun e w' => e = .returned (.string ⟨(txtL n d).toArray⟩) ∧ Below w.heap.size w w' := by
  have g := fracB_iff.1 hf
  have ln := dec_len n.natAbs (by omega)
  have ld := dec_len d.natAbs (by omega)
  have S1 := refsz n (by omega)
  have D1 := Lib.hid (fun w => refdecimal_any n.natAbs (by omega) w)
  have S2 := refsz d (by omega)
  have D2 := Lib.hid (fun w => refdecimal_any d.natAbs (by omega) w)
  have hi : Lib.itoa n = (if n < 0 then 45 :: Lib.decDigits n.natAbs else Lib.decDigits n.natAbs) := by
    unfold Lib.itoa
    split
    · rfl
    · rw [show n.toNat = n.natAbs from by omega]
  have hj : Lib.itoa d = Lib.decDigits d.natAbs := by
    unfold Lib.itoa
    rw [if_neg (by omega), show d.toNat = d.natAbs from by omega]
  by_cases h1 : d = 1
  · subst h1
    by_cases hn : n < 0
    · have := reftext_11 n _ _ (by rw [mk_size]; omega) hn S1 D1 w
      rwa [show (⟨#[45]⟩ ++ (⟨(Lib.decDigits n.natAbs).toArray⟩ : ByteArray)) = ⟨(txtL n 1).toArray⟩ from by_inj (by rw [by_append, mk_by, mk_by, mk_by]; simp [txtL, hi, hn])] at this
    · have := reftext_01 n _ _ (by rw [mk_size]; omega) hn S1 D1 w
      rwa [show (⟨(Lib.decDigits n.natAbs).toArray⟩ : ByteArray) = ⟨(txtL n 1).toArray⟩ from by_inj (by rw [mk_by, mk_by]; simp [txtL, hi, hn])] at this
  · by_cases hn : n < 0
    · have := reftext_10 n d _ _ _ _ (by rw [mk_size]; omega) (by rw [mk_size]; omega) hn S1 D1 S2 D2 h1 (by simpa using h1) (by simpa using h1) w
      rwa [show (⟨#[45]⟩ ++ (⟨(Lib.decDigits n.natAbs).toArray⟩ : ByteArray) ++ ⟨#[47]⟩ ++ ⟨(Lib.decDigits d.natAbs).toArray⟩) = ⟨(txtL n d).toArray⟩ from by_inj (by rw [by_append, by_append, by_append, mk_by, mk_by, mk_by, mk_by, mk_by]; simp [txtL, hi, hj, hn, h1])] at this
    · have := reftext_00 n d _ _ _ _ (by rw [mk_size]; omega) (by rw [mk_size]; omega) hn S1 D1 S2 D2 h1 (by simpa using h1) (by simpa using h1) w
      rwa [show ((⟨(Lib.decDigits n.natAbs).toArray⟩ : ByteArray) ++ ⟨#[47]⟩ ++ ⟨(Lib.decDigits d.natAbs).toArray⟩) = ⟨(txtL n d).toArray⟩ from by_inj (by rw [by_append, by_append, mk_by, mk_by, mk_by, mk_by]; simp [txtL, hi, hj, hn, h1])] at this

/-! ### sums -/
def allV (l : List (Int × Int)) : Bool := l.all fun f => fracB f.1 f.2
def sumG : List (Int × Int) → Int → Int → Int × Int × Int
  | [], x, y => (x, y, 0)
  | f :: r, x, y => if (raddS x y f.1 f.2).2.2 = 0 then sumG r (raddS x y f.1 f.2).1 (raddS x y f.1 f.2).2.1 else (0, 0, (raddS x y f.1 f.2).2.2)
def sumS (l : List (Int × Int)) : Int × Int × Int := if allV l then (if 1000 < l.length then (0, 0, 4) else sumG l 0 1) else (0, 0, 1)
/-- The cells of a slice of fractions. -/
def FrAt (B : Nat) (w : World) (ao : Option Addr) (l : List (Int × Int)) : Prop := ∀ (k : Nat) (hk : k < l.length), ∃ b off, ao = some ⟨b, off, none⟩ ∧ w.cell? ⟨b, off + k * 2, none⟩ = some (.int .i64 l[k].1) ∧ w.cell? ⟨b, off + k * 2 + 1, none⟩ = some (.int .i64 l[k].2) ∧ b < B
theorem FrAt.bel {B : Nat} {w w' : World} {ao : Option Addr} {l : List (Int × Int)} (h : FrAt B w ao l) (hB : B ≤ w.heap.size) (hb : Below w.heap.size w w') : FrAt B w' ao l := by
  intro k hk
  obtain ⟨b, off, e, c0, c1, hlt⟩ := h k hk
  exact ⟨b, off, e, (hb.cell (Nat.lt_of_lt_of_le hlt hB)).trans c0, (hb.cell (Nat.lt_of_lt_of_le hlt hB)).trans c1, hlt⟩
theorem FrAt.set {B : Nat} {w : World} {ao : Option Addr} {l : List (Int × Int)} (h : FrAt B w ao l) {p : Addr} (hp : B ≤ p.block) (u : Value) : FrAt B (w.setCell p u) ao l := by
  intro k hk
  obtain ⟨b, off, e, c0, c1, hlt⟩ := h k hk
  have hne : ∀ o : Nat, p ≠ ⟨b, o, none⟩ := fun o e => by
    have := congrArg Addr.block e
    dsimp only at this
    omega
  exact ⟨b, off, e, (World.cell?_setCell_other _ _ _ _ (hne _)).trans c0, (World.cell?_setCell_other _ _ _ _ (hne _)).trans c1, hlt⟩

set_option maxRecDepth 100000 in
theorem wrong_any (n d : Int) (w : World) : Calls Tryd.prog 58 #[.agg #[.int .i64 n, .int .i64 d]] w fun e w' => e = .returned (.bool (!fracB n d)) ∧ Below w.heap.size w w' := by
  have HV := Lib.hid (fun w => fvalid_any n d w)
  generalize fracB n d = b at *
  go_enter Tryd.func58, Tryd.ntmps58
  go_wp2_with fail
  refine (HV.out _).mono ?_
  rintro e v1 ⟨rfl, hb1⟩
  have k_a : At v1 (w.heap.size) 23 #[.int .i64 n, .int .i64 d] := At.bel (by (repeat (first | (with_reducible apply At.new'; (focus (simp; done))) | with_reducible apply At.al | with_reducible apply At.drw | with_reducible apply At.dr))) hb1
  have HB : Below w.heap.size w v1 := below_then (by repeat (first | with_reducible assumption | with_reducible exact Below.refl _ _ | with_reducible refine below_al ?_ _ | with_reducible refine below_drew ?_ | with_reducible refine below_drewN ?_ _ | with_reducible refine below_set ?_ (by dsimp only; omega) _)) hb1
  clear hb1
  go_wp2_with fail
  go_ret
  exact ⟨by rfl, (by repeat (first | with_reducible assumption | with_reducible exact Below.refl _ _ | with_reducible refine below_al ?_ _ | with_reducible refine below_drew ?_ | with_reducible refine below_drewN ?_ _ | with_reducible refine below_set ?_ (by dsimp only; omega) _))⟩

set_option maxRecDepth 100000 in
set_option maxHeartbeats 1000000 in
theorem idxFunc_any (l : List (Int × Int)) (ao : Option Addr) (cap : Nat) (hl : l.length ≤ cap) (hc : cap ≤ 9223372036854775807) (B : Nat) (w : World) (hB : B ≤ w.heap.size) (ha : Hid (FrAt B w ao l)) :
    Calls Tryd.prog 71 #[.slice ao l.length cap, .func (.func 58) #[] #[]] w fun e w' => (∃ i : Int, e = .returned (.int .i64 i) ∧ (allV l = true ∧ i = -1 ∨ allV l = false ∧ 0 ≤ i)) ∧ Below w.heap.size w w' := by
  obtain ⟨n, hn⟩ : ∃ n, l.length = n := ⟨_, rfl⟩
  rw [hn] at hl ⊢
  replace hn := Lib.hid hn
  go_enter Tryd.func71, Tryd.ntmps71
  go_wp2_with fail
  go_loopg [8] n (fun g i wr => ∃ k : Nat, k ≤ n ∧ i = .int .i64 (k : Int) ∧ Hid (g = n - k ∧ ((l.take k).all fun f => fracB f.1 f.2) = true) ∧ Below w.heap.size w wr ∧ Hid (FrAt B wr ao l))
  case atStart => exact ⟨0, Nat.zero_le _, rfl, Lib.hid ⟨rfl, rfl⟩, Below.refl _ _, ha⟩
  case round =>
    clear ha
    obtain ⟨k, hk, rfl, hr, HB, ha⟩ := hrel
    by_cases hlt : k < n
    · have hkl : Hid (k < l.length) := Lib.hid (by rw [hn.out]; exact hlt)
      obtain ⟨b, off, rfl, c0, c1, hb⟩ := ha.out k hkl.out
      obtain ⟨x, hx⟩ : ∃ x, l[k]'hkl.out = x := ⟨_, rfl⟩
      rw [hx] at c0 c1
      obtain ⟨x1, x2⟩ := x
      replace hx := Lib.hid hx
      have HC := Lib.hid (fun w => wrong_any x1 x2 w)
      dsimp only at c0 c1
      cases hv : fracB x1 x2
      · rw [hv] at HC
        have hE : Hid (allV l = false) := Lib.hid (by
          unfold allV
          cases h : l.all fun f => fracB f.1 f.2
          · rfl
          · have := List.all_eq_true.1 h _ (List.getElem_mem hkl.out)
            rw [hx.out] at this
            rw [show fracB x1 x2 = true from this] at hv
            exact absurd hv (by decide))
        clear hv
        go_wp2_with fail
        refine (HC.out _).mono ?_
        rintro e w1 ⟨rfl, hb1⟩
        replace HB := below_then HB hb1
        clear hb1
        go_wp2_with fail
        go_ret
        exact ⟨⟨(k : Int), rfl, .inr ⟨hE.out, by omega⟩⟩, HB⟩
      · rw [hv] at HC
        replace hv := Lib.hid hv
        go_wp2_with fail
        refine (HC.out _).mono ?_
        rintro e w1 ⟨rfl, hb1⟩
        have ha' := Lib.hid (ha.out.bel (Nat.le_trans hB HB.size) hb1)
        replace HB := below_then HB hb1
        clear hb1 c0 c1 ha hb
        go_wp2_with fail
        go_roundg (n - (k + 1))
        case measure => have := hr.out.1; omega
        case rel =>
          refine ⟨k + 1, by omega, by go_num, Lib.hid ⟨rfl, ?_⟩, HB, ha'⟩
          rw [List.take_succ_eq_append_getElem hkl.out, List.all_append, hr.out.2, hx.out]
          simp [hv.out]
    · have hE : Hid (allV l = true) := Lib.hid (by
        have := hr.out.2
        rwa [List.take_of_length_le (by have := hn.out; omega)] at this)
      go_wp2_with fail
      go_ret
      exact ⟨⟨-1, rfl, .inl ⟨hE.out, rfl⟩⟩, HB⟩

set_option maxRecDepth 100000 in
set_option maxHeartbeats 1000000 in
theorem containsFunc_any (l : List (Int × Int)) (ao : Option Addr) (cap : Nat) (hl : l.length ≤ cap) (hc : cap ≤ 9223372036854775807) (B : Nat) (w : World) (hB : B ≤ w.heap.size) (ha : Hid (FrAt B w ao l)) :
    Calls Tryd.prog 57 #[.slice ao l.length cap, .func (.func 58) #[] #[]] w fun e w' => e = .returned (.bool (!allV l)) ∧ Below w.heap.size w w' := by
  have H := idxFunc_any l ao cap hl hc B w hB ha
  obtain ⟨n, hn⟩ : ∃ n, l.length = n := ⟨_, rfl⟩
  rw [hn] at H ⊢
  clear hn
  generalize allV l = b at *
  replace H := Lib.hid H
  go_enter Tryd.func57, Tryd.ntmps57
  go_wp2_with fail
  refine (H.out).mono ?_
  rintro e w1 ⟨⟨i, rfl, h⟩, HB⟩
  rcases h with ⟨rfl, rfl⟩ | ⟨rfl, h⟩
  · go_wp2_with fail
    go_ret
    exact ⟨rfl, HB⟩
  · go_wp2_with fail
    go_ret
    exact ⟨rfl, HB⟩

end Go.Proofs.YtpijmjffobkalaaDoor
