/- slices.IndexFunc and ContainsFunc at bars, bundles and ints, with closures that hold pointers. -/
import Derived.Test.YtjlkbmaigcgnbaaDoorBJ01
import Derived.Deep.MidRow
set_option linter.unusedVariables false
namespace Go.Proofs.YtjlkbmaigcgnbaaDoor
open Go.ChangeShapes Go.WideShapes Go.ChangeAt Go.RowKit
def encZ (n : Int) : List Value := [.int .i64 n]
theorem encZ_len (n : Int) : (encZ n).length = 1 := rfl
def IsI (l : List Int) (v : Value) (w : World) : Prop := ∃ a c, v = .slice a l.length c ∧ l.length ≤ c ∧ c ≤ 9223372036854775807 ∧ RowAt encZ 1 w.heap.size w a l
theorem IsI.up {l : List Int} {v : Value} {w w' : World} (h : IsI l v w) (hb : Below w.heap.size w w') : IsI l v w' := by
  obtain ⟨a, c, h1, h2, h3, h4⟩ := h
  exact ⟨a, c, h1, h2, h3, (h4.bel (Nat.le_refl _) hb).mono hb.size⟩
theorem isI_new {w : World} {g : Nat} {l : List Int} (h : At w g 3 (l.map (.int .i64 ·)).toArray) (hl : l.length ≤ 9223372036854775807) : IsI l (.slice (some ⟨g, 0, none⟩) l.length l.length) w := by
  refine ⟨_, _, rfl, Nat.le_refl _, hl, fun k hk => ⟨g, 0, rfl, h.lt, fun j u hu => ?_⟩⟩
  have hj : j = 0 := by
    have := (List.getElem?_eq_some_iff.1 hu).1
    simp [encZ] at this
    exact this
  subst hj
  rw [h.c]
  simp [encZ] at hu
  simp [hk, hu]
theorem row_isI {w : World} {v : Value} {l : List Int} (h : Row w 3 1 encZ v l) : IsI l v w := by
  obtain ⟨a, c, h1, h2, h3, h4, _⟩ := h.view encZ_len
  exact ⟨a, c, h1, h2, h3, h4⟩
def fxI {α : Type} (p : α → Bool) (l : List α) : Int := if l.findIdx p < l.length then (l.findIdx p : Int) else -1
theorem fxI_at {α : Type} {p : α → Bool} {l : List α} {k : Nat} (hk : k < l.length) (h : p l[k] = true) (hb : ∀ (j : Nat) (hj : j < l.length), j < k → p l[j] = false) : fxI p l = (k : Int) := by
  have : l.findIdx p = k := by
    rw [List.findIdx_eq hk]
    exact ⟨h, fun j hj => hb j (by omega) hj⟩
  unfold fxI
  rw [this, if_pos hk]
theorem fxI_no {α : Type} {p : α → Bool} {l : List α} (hb : ∀ (j : Nat) (hj : j < l.length), p l[j] = false) : fxI p l = -1 := by
  have : l.findIdx p = l.length := by
    rw [List.findIdx_eq_length]
    intro x hx
    obtain ⟨j, hj, rfl⟩ := List.getElem_of_mem hx
    exact hb j hj
  unfold fxI
  rw [this, if_neg (by omega)]
theorem fxI_any {α : Type} (p : α → Bool) (l : List α) : (l.any p = false ∧ fxI p l = -1) ∨ (l.any p = true ∧ 0 ≤ fxI p l) := by
  by_cases h : l.findIdx p < l.length
  · refine .inr ⟨?_, by unfold fxI; rw [if_pos h]; omega⟩
    rw [List.any_eq_true]
    exact ⟨_, List.getElem_mem h, List.findIdx_getElem (w := h)⟩
  · refine .inl ⟨?_, by unfold fxI; rw [if_neg h]⟩
    rw [List.any_eq_false]
    intro x hx
    have h2 : l.findIdx p = l.length := by have := List.findIdx_le_length (p := p) (xs := l); omega
    rw [List.findIdx_eq_length] at h2
    simp [h2 x hx]
set_option maxRecDepth 100000 in
set_option maxHeartbeats 1000000 in
theorem idxBar {α : Type} (enc : α → List Value) (henc : ∀ x, (enc x).length = 5) (l : List α) (ao : Option Addr) (cap : Nat) (hl : l.length ≤ cap) (hc : cap ≤ 9223372036854775807) (B : Nat) (w : World) (hB : B ≤ w.heap.size) (ha : Hid (RowAt enc 5 B w ao l)) (F : FuncId) (c0 : Value) (hF : ∀ args w, (callFunc F args).run Tryd.prog w = .ok (.enter F args) w) (pred : α → Bool) (HC : Hid (∀ x ∈ l, ∀ W, Below w.heap.size w W → Calls Tryd.prog F #[.agg (enc x).toArray, c0] W fun e w' => e = .returned (.bool (pred x)) ∧ Below W.heap.size W w')) :
    Calls Tryd.prog 38 #[.slice ao l.length cap, .func (.func F) #[] #[c0]] w fun e w' => e = .returned (.int .i64 (fxI pred l)) ∧ Below w.heap.size w w' := by
  obtain ⟨R, hR⟩ : ∃ R, fxI pred l = R := ⟨_, rfl⟩
  rw [hR]
  replace hR := Lib.hid hR
  obtain ⟨n, hn⟩ : ∃ n, l.length = n := ⟨_, rfl⟩
  rw [hn] at hl ⊢
  replace hn := Lib.hid hn
  go_enter Tryd.func38, Tryd.ntmps38
  go_wp2_with fail
  go_loopg [8] n (fun g i wr => ∃ k : Nat, k ≤ n ∧ i = .int .i64 (k : Int) ∧ Hid (g = n - k ∧ ∀ (j : Nat) (hj : j < l.length), j < k → pred l[j] = false) ∧ Below w.heap.size w wr ∧ Hid (RowAt enc 5 B wr ao l))
  case atStart => exact ⟨0, Nat.zero_le _, rfl, Lib.hid ⟨rfl, fun j hj h => absurd h (by omega)⟩, Below.refl _ _, ha⟩
  case round =>
    clear ha
    obtain ⟨k, hk, rfl, hr, HB, ha⟩ := hrel
    by_cases hlt : k < n
    · have hkl : Hid (k < l.length) := Lib.hid (by rw [hn.out]; exact hlt)
      obtain ⟨b, off, rfl, hblt, hc⟩ := ha.out k hkl.out
      obtain ⟨x, hx⟩ : ∃ x, l[k]'hkl.out = x := ⟨_, rfl⟩
      have hrg : wr.rangeAt b (off + k * 5) (enc x) := fun j v hj => hc j v (by rw [hx]; exact hj)
      have hmem : x ∈ l := hx ▸ List.getElem_mem hkl.out
      have HCx : Hid (∀ W, Below w.heap.size w W → Calls Tryd.prog F #[.agg (enc x).toArray, c0] W fun e w' => e = .returned (.bool (pred x)) ∧ Below W.heap.size W w') := Lib.hid (HC.out x hmem)
      replace hx := Lib.hid hx
      clear hc hblt
      cases hv : pred x
      · rw [hv] at HCx
        replace hv := Lib.hid hv
        go_wp2_with (first | (refine wpList_load_mid rfl 50 (.tmp 14) rfl b (off + k * 5) (by simp [Act.eval]) (enc x) _ hrg Tryd.underlying50 rfl (by rw [henc]; kernel_rfl) ?_) | fail)
        refine (HCx.out _ HB).mono ?_
        rintro e w1 ⟨rfl, hb1⟩
        have ha' := Lib.hid (ha.out.bel (Nat.le_trans hB HB.size) hb1)
        replace HB := below_then HB hb1
        clear hb1 hrg ha
        go_wp2_with fail
        go_roundg (n - (k + 1))
        case measure => have := hr.out.1; omega
        case rel =>
          refine ⟨k + 1, by omega, by go_num, Lib.hid ⟨rfl, fun j hj hjk => ?_⟩, HB, ha'⟩
          by_cases q : j = k
          · subst q
            rw [hx.out]; exact hv.out
          · exact hr.out.2 j hj (by omega)
      · rw [hv] at HCx
        have hE : Hid (R = (k : Int)) := Lib.hid (by
          rw [← hR.out]
          exact fxI_at hkl.out (by rw [hx.out]; exact hv) hr.out.2)
        clear hv
        go_wp2_with (first | (refine wpList_load_mid rfl 50 (.tmp 14) rfl b (off + k * 5) (by simp [Act.eval]) (enc x) _ hrg Tryd.underlying50 rfl (by rw [henc]; kernel_rfl) ?_) | fail)
        refine (HCx.out _ HB).mono ?_
        rintro e w1 ⟨rfl, hb1⟩
        replace HB := below_then HB hb1
        clear hb1
        go_wp2_with fail
        go_ret
        exact ⟨by rw [hE.out]; rfl, HB⟩
    · have hE : Hid (R = -1) := Lib.hid (by
        rw [← hR.out]
        exact fxI_no fun j hj => hr.out.2 j hj (by have := hn.out; omega))
      go_wp2_with fail
      go_ret
      exact ⟨by rw [hE.out]; rfl, HB⟩
set_option maxRecDepth 100000 in
set_option maxHeartbeats 1000000 in
theorem contBar {α : Type} (enc : α → List Value) (henc : ∀ x, (enc x).length = 5) (l : List α) (ao : Option Addr) (cap : Nat) (hl : l.length ≤ cap) (hc : cap ≤ 9223372036854775807) (B : Nat) (w : World) (hB : B ≤ w.heap.size) (ha : Hid (RowAt enc 5 B w ao l)) (F : FuncId) (c0 : Value) (hF : ∀ args w, (callFunc F args).run Tryd.prog w = .ok (.enter F args) w) (pred : α → Bool) (HC : Hid (∀ x ∈ l, ∀ W, Below w.heap.size w W → Calls Tryd.prog F #[.agg (enc x).toArray, c0] W fun e w' => e = .returned (.bool (pred x)) ∧ Below W.heap.size W w')) :
    Calls Tryd.prog 20 #[.slice ao l.length cap, .func (.func F) #[] #[c0]] w fun e w' => e = .returned (.bool (l.any pred)) ∧ Below w.heap.size w w' := by
  have H := idxBar enc henc l ao cap hl hc B w hB ha F c0 hF pred HC
  rcases fxI_any pred l with ⟨h1, h2⟩ | ⟨h1, h2⟩
  · rw [h2] at H
    rw [h1]
    obtain ⟨n, hn⟩ : ∃ n, l.length = n := ⟨_, rfl⟩
    rw [hn] at H ⊢
    clear hn HC ha hF h1 h2
    replace H := Lib.hid H
    go_enter Tryd.func20, Tryd.ntmps20
    go_wp2_with fail
    refine (H.out).mono ?_
    rintro e w1 ⟨rfl, HB⟩
    go_wp2_with fail
    go_ret
    exact ⟨rfl, HB⟩
  · rw [h1]
    obtain ⟨n, hn⟩ : ∃ n, l.length = n := ⟨_, rfl⟩
    obtain ⟨r, hr⟩ : ∃ r, fxI pred l = r := ⟨_, rfl⟩
    rw [hn, hr] at H
    rw [hr] at h2
    rw [hn]
    clear hn HC ha hF h1 hr
    replace H := Lib.hid H
    go_enter Tryd.func20, Tryd.ntmps20
    go_wp2_with fail
    refine (H.out).mono ?_
    rintro e w1 ⟨rfl, HB⟩
    go_wp2_with fail
    go_ret
    exact ⟨rfl, HB⟩
set_option maxRecDepth 100000 in
set_option maxHeartbeats 1000000 in
theorem idxBun {α : Type} (enc : α → List Value) (henc : ∀ x, (enc x).length = 4) (l : List α) (ao : Option Addr) (cap : Nat) (hl : l.length ≤ cap) (hc : cap ≤ 9223372036854775807) (B : Nat) (w : World) (hB : B ≤ w.heap.size) (ha : Hid (RowAt enc 4 B w ao l)) (F : FuncId) (c0 : Value) (hF : ∀ args w, (callFunc F args).run Tryd.prog w = .ok (.enter F args) w) (pred : α → Bool) (HC : Hid (∀ x ∈ l, ∀ W, Below w.heap.size w W → Calls Tryd.prog F #[.agg (enc x).toArray, c0] W fun e w' => e = .returned (.bool (pred x)) ∧ Below W.heap.size W w')) :
    Calls Tryd.prog 66 #[.slice ao l.length cap, .func (.func F) #[] #[c0]] w fun e w' => e = .returned (.int .i64 (fxI pred l)) ∧ Below w.heap.size w w' := by
  obtain ⟨R, hR⟩ : ∃ R, fxI pred l = R := ⟨_, rfl⟩
  rw [hR]
  replace hR := Lib.hid hR
  obtain ⟨n, hn⟩ : ∃ n, l.length = n := ⟨_, rfl⟩
  rw [hn] at hl ⊢
  replace hn := Lib.hid hn
  go_enter Tryd.func66, Tryd.ntmps66
  go_wp2_with fail
  go_loopg [8] n (fun g i wr => ∃ k : Nat, k ≤ n ∧ i = .int .i64 (k : Int) ∧ Hid (g = n - k ∧ ∀ (j : Nat) (hj : j < l.length), j < k → pred l[j] = false) ∧ Below w.heap.size w wr ∧ Hid (RowAt enc 4 B wr ao l))
  case atStart => exact ⟨0, Nat.zero_le _, rfl, Lib.hid ⟨rfl, fun j hj h => absurd h (by omega)⟩, Below.refl _ _, ha⟩
  case round =>
    clear ha
    obtain ⟨k, hk, rfl, hr, HB, ha⟩ := hrel
    by_cases hlt : k < n
    · have hkl : Hid (k < l.length) := Lib.hid (by rw [hn.out]; exact hlt)
      obtain ⟨b, off, rfl, hblt, hc⟩ := ha.out k hkl.out
      obtain ⟨x, hx⟩ : ∃ x, l[k]'hkl.out = x := ⟨_, rfl⟩
      have hrg : wr.rangeAt b (off + k * 4) (enc x) := fun j v hj => hc j v (by rw [hx]; exact hj)
      have hmem : x ∈ l := hx ▸ List.getElem_mem hkl.out
      have HCx : Hid (∀ W, Below w.heap.size w W → Calls Tryd.prog F #[.agg (enc x).toArray, c0] W fun e w' => e = .returned (.bool (pred x)) ∧ Below W.heap.size W w') := Lib.hid (HC.out x hmem)
      replace hx := Lib.hid hx
      clear hc hblt
      cases hv : pred x
      · rw [hv] at HCx
        replace hv := Lib.hid hv
        go_wp2_with (first | (refine wpList_load_mid rfl 44 (.tmp 14) rfl b (off + k * 4) (by simp [Act.eval]) (enc x) _ hrg Tryd.underlying44 rfl (by rw [henc]; kernel_rfl) ?_) | fail)
        refine (HCx.out _ HB).mono ?_
        rintro e w1 ⟨rfl, hb1⟩
        have ha' := Lib.hid (ha.out.bel (Nat.le_trans hB HB.size) hb1)
        replace HB := below_then HB hb1
        clear hb1 hrg ha
        go_wp2_with fail
        go_roundg (n - (k + 1))
        case measure => have := hr.out.1; omega
        case rel =>
          refine ⟨k + 1, by omega, by go_num, Lib.hid ⟨rfl, fun j hj hjk => ?_⟩, HB, ha'⟩
          by_cases q : j = k
          · subst q
            rw [hx.out]; exact hv.out
          · exact hr.out.2 j hj (by omega)
      · rw [hv] at HCx
        have hE : Hid (R = (k : Int)) := Lib.hid (by
          rw [← hR.out]
          exact fxI_at hkl.out (by rw [hx.out]; exact hv) hr.out.2)
        clear hv
        go_wp2_with (first | (refine wpList_load_mid rfl 44 (.tmp 14) rfl b (off + k * 4) (by simp [Act.eval]) (enc x) _ hrg Tryd.underlying44 rfl (by rw [henc]; kernel_rfl) ?_) | fail)
        refine (HCx.out _ HB).mono ?_
        rintro e w1 ⟨rfl, hb1⟩
        replace HB := below_then HB hb1
        clear hb1
        go_wp2_with fail
        go_ret
        exact ⟨by rw [hE.out]; rfl, HB⟩
    · have hE : Hid (R = -1) := Lib.hid (by
        rw [← hR.out]
        exact fxI_no fun j hj => hr.out.2 j hj (by have := hn.out; omega))
      go_wp2_with fail
      go_ret
      exact ⟨by rw [hE.out]; rfl, HB⟩
set_option maxRecDepth 100000 in
set_option maxHeartbeats 1000000 in
theorem contBun {α : Type} (enc : α → List Value) (henc : ∀ x, (enc x).length = 4) (l : List α) (ao : Option Addr) (cap : Nat) (hl : l.length ≤ cap) (hc : cap ≤ 9223372036854775807) (B : Nat) (w : World) (hB : B ≤ w.heap.size) (ha : Hid (RowAt enc 4 B w ao l)) (F : FuncId) (c0 : Value) (hF : ∀ args w, (callFunc F args).run Tryd.prog w = .ok (.enter F args) w) (pred : α → Bool) (HC : Hid (∀ x ∈ l, ∀ W, Below w.heap.size w W → Calls Tryd.prog F #[.agg (enc x).toArray, c0] W fun e w' => e = .returned (.bool (pred x)) ∧ Below W.heap.size W w')) :
    Calls Tryd.prog 45 #[.slice ao l.length cap, .func (.func F) #[] #[c0]] w fun e w' => e = .returned (.bool (l.any pred)) ∧ Below w.heap.size w w' := by
  have H := idxBun enc henc l ao cap hl hc B w hB ha F c0 hF pred HC
  rcases fxI_any pred l with ⟨h1, h2⟩ | ⟨h1, h2⟩
  · rw [h2] at H
    rw [h1]
    obtain ⟨n, hn⟩ : ∃ n, l.length = n := ⟨_, rfl⟩
    rw [hn] at H ⊢
    clear hn HC ha hF h1 h2
    replace H := Lib.hid H
    go_enter Tryd.func45, Tryd.ntmps45
    go_wp2_with fail
    refine (H.out).mono ?_
    rintro e w1 ⟨rfl, HB⟩
    go_wp2_with fail
    go_ret
    exact ⟨rfl, HB⟩
  · rw [h1]
    obtain ⟨n, hn⟩ : ∃ n, l.length = n := ⟨_, rfl⟩
    obtain ⟨r, hr⟩ : ∃ r, fxI pred l = r := ⟨_, rfl⟩
    rw [hn, hr] at H
    rw [hr] at h2
    rw [hn]
    clear hn HC ha hF h1 hr
    replace H := Lib.hid H
    go_enter Tryd.func45, Tryd.ntmps45
    go_wp2_with fail
    refine (H.out).mono ?_
    rintro e w1 ⟨rfl, HB⟩
    go_wp2_with fail
    go_ret
    exact ⟨rfl, HB⟩
set_option maxRecDepth 100000 in
set_option maxHeartbeats 1000000 in
theorem idxInt (l : List Int) (ao : Option Addr) (cap : Nat) (hl : l.length ≤ cap) (hc : cap ≤ 9223372036854775807) (B : Nat) (w : World) (hB : B ≤ w.heap.size) (ha : Hid (RowAt encZ 1 B w ao l)) (F : FuncId) (c0 c1 c2 : Value) (hF : ∀ args w, (callFunc F args).run Tryd.prog w = .ok (.enter F args) w) (pred : Int → Bool) (HC : Hid (∀ x ∈ l, ∀ W, Below w.heap.size w W → Calls Tryd.prog F #[.int .i64 x, c0, c1, c2] W fun e w' => e = .returned (.bool (pred x)) ∧ Below W.heap.size W w')) :
    Calls Tryd.prog 28 #[.slice ao l.length cap, .func (.func F) #[] #[c0, c1, c2]] w fun e w' => e = .returned (.int .i64 (fxI pred l)) ∧ Below w.heap.size w w' := by
  obtain ⟨R, hR⟩ : ∃ R, fxI pred l = R := ⟨_, rfl⟩
  rw [hR]
  replace hR := Lib.hid hR
  obtain ⟨n, hn⟩ : ∃ n, l.length = n := ⟨_, rfl⟩
  rw [hn] at hl ⊢
  replace hn := Lib.hid hn
  go_enter Tryd.func28, Tryd.ntmps28
  go_wp2_with fail
  go_loopg [8] n (fun g i wr => ∃ k : Nat, k ≤ n ∧ i = .int .i64 (k : Int) ∧ Hid (g = n - k ∧ ∀ (j : Nat) (hj : j < l.length), j < k → pred l[j] = false) ∧ Below w.heap.size w wr ∧ Hid (RowAt encZ 1 B wr ao l))
  case atStart => exact ⟨0, Nat.zero_le _, rfl, Lib.hid ⟨rfl, fun j hj h => absurd h (by omega)⟩, Below.refl _ _, ha⟩
  case round =>
    clear ha
    obtain ⟨k, hk, rfl, hr, HB, ha⟩ := hrel
    by_cases hlt : k < n
    · have hkl : Hid (k < l.length) := Lib.hid (by rw [hn.out]; exact hlt)
      obtain ⟨b, off, rfl, hblt, hc⟩ := ha.out k hkl.out
      obtain ⟨x, hx⟩ : ∃ x, l[k]'hkl.out = x := ⟨_, rfl⟩
      have hrg : wr.cell? ⟨b, off + k, none⟩ = some (.int .i64 x) := by
        have := hc 0 (.int .i64 x) (by rw [hx]; rfl)
        rwa [Nat.mul_one, Nat.add_zero] at this
      have hmem : x ∈ l := hx ▸ List.getElem_mem hkl.out
      have HCx : Hid (∀ W, Below w.heap.size w W → Calls Tryd.prog F #[.int .i64 x, c0, c1, c2] W fun e w' => e = .returned (.bool (pred x)) ∧ Below W.heap.size W w') := Lib.hid (HC.out x hmem)
      replace hx := Lib.hid hx
      clear hc hblt
      cases hv : pred x
      · rw [hv] at HCx
        replace hv := Lib.hid hv
        go_wp2_with fail
        refine (HCx.out _ HB).mono ?_
        rintro e w1 ⟨rfl, hb1⟩
        have ha' := Lib.hid (ha.out.bel (Nat.le_trans hB HB.size) hb1)
        replace HB := below_then HB hb1
        clear hb1 hrg ha
        go_wp2_with fail
        go_roundg (n - (k + 1))
        case measure => have := hr.out.1; omega
        case rel =>
          refine ⟨k + 1, by omega, by go_num, Lib.hid ⟨rfl, fun j hj hjk => ?_⟩, HB, ha'⟩
          by_cases q : j = k
          · subst q
            rw [hx.out]; exact hv.out
          · exact hr.out.2 j hj (by omega)
      · rw [hv] at HCx
        have hE : Hid (R = (k : Int)) := Lib.hid (by
          rw [← hR.out]
          exact fxI_at hkl.out (by rw [hx.out]; exact hv) hr.out.2)
        clear hv
        go_wp2_with fail
        refine (HCx.out _ HB).mono ?_
        rintro e w1 ⟨rfl, hb1⟩
        replace HB := below_then HB hb1
        clear hb1
        go_wp2_with fail
        go_ret
        exact ⟨by rw [hE.out]; rfl, HB⟩
    · have hE : Hid (R = -1) := Lib.hid (by
        rw [← hR.out]
        exact fxI_no fun j hj => hr.out.2 j hj (by have := hn.out; omega))
      go_wp2_with fail
      go_ret
      exact ⟨by rw [hE.out]; rfl, HB⟩
end Go.Proofs.YtjlkbmaigcgnbaaDoor
