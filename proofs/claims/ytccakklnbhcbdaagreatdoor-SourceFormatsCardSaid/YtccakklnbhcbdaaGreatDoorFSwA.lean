import Derived.Test.YtccakklnbhcbdaaGreatDoorFQe
import Derived.Deep.MidRow
set_option linter.unusedVariables false
namespace Go.Proofs.YtccakklnbhcbdaaGreatDoor
open Go.ChangeShapes Go.WideShapes Go.ChangeAt Go.RowKit
set_option maxRecDepth 100000 in
set_option maxHeartbeats 1000000 in
theorem idxBox {α : Type} (enc : α → List Value) (henc : ∀ x, (enc x).length = 6) (l : List α) (ao : Option Addr) (cap : Nat) (hl : l.length ≤ cap) (hc : cap ≤ 9223372036854775807) (B : Nat) (w : World) (hB : B ≤ w.heap.size) (ha : Hid (RowAt enc 6 B w ao l)) (F : FuncId) (hF : ∀ args w, (callFunc F args).run Tryz.prog w = .ok (.enter F args) w) (pred : α → Bool) (HC : Hid (∀ x ∈ l, ∀ W, Below w.heap.size w W → Calls Tryz.prog F #[.agg (enc x).toArray] W fun e w' => e = .returned (.bool (pred x)) ∧ Below W.heap.size W w')) :
  Calls Tryz.prog 78 #[.slice ao l.length cap, .func (.func F) #[] #[]] w fun e w' => (∃ i : Int, e = .returned (.int .i64 i) ∧ (l.any pred = false ∧ i = -1 ∨ l.any pred = true ∧ 0 ≤ i)) ∧ Below w.heap.size w w' := by
 obtain ⟨n, hn⟩ : ∃ n, l.length = n := ⟨_, rfl⟩
 rw [hn] at hl ⊢
 replace hn := Lib.hid hn
 go_enter Tryz.func78, Tryz.ntmps78
 go_wp2_with fail
 go_loopg [8] n (fun g i wr => ∃ k : Nat, k ≤ n ∧ i = .int .i64 (k : Int) ∧ Hid (g = n - k ∧ (l.take k).any pred = false) ∧ Below w.heap.size w wr ∧ Hid (RowAt enc 6 B wr ao l))
 case atStart => exact ⟨0, Nat.zero_le _, rfl, Lib.hid ⟨rfl, rfl⟩, Below.refl _ _, ha⟩
 case round =>
  clear ha
  obtain ⟨k, hk, rfl, hr, HB, ha⟩ := hrel
  by_cases hlt : k < n
  ·have hkl : Hid (k < l.length) := Lib.hid (by rw [hn.out]; exact hlt)
   obtain ⟨b, off, rfl, hblt, hc⟩ := ha.out k hkl.out
   obtain ⟨x, hx⟩ : ∃ x, l[k]'hkl.out = x := ⟨_, rfl⟩
   have hrg : wr.rangeAt b (off + k * 6) (enc x) := fun j v hj => hc j v (by rw [hx]; exact hj)
   have hmem : x ∈ l := hx ▸ List.getElem_mem hkl.out
   have HCx : Hid (∀ W, Below w.heap.size w W → Calls Tryz.prog F #[.agg (enc x).toArray] W fun e w' => e = .returned (.bool (pred x)) ∧ Below W.heap.size W w') := Lib.hid (HC.out x hmem)
   replace hx := Lib.hid hx
   clear hc hblt
   cases hv : pred x
   ·rw [hv] at HCx
    replace hv := Lib.hid hv
    go_wp2_with (first | (refine wpList_load_mid rfl 60 (.tmp 14) rfl b (off + k * 6) (by simp [Act.eval]) (enc x) _ hrg Tryz.underlying60 rfl (by rw [henc]; kernel_rfl) ?_) | fail)
    refine (HCx.out _ HB).mono ?_
    rintro e w1 ⟨rfl, hb1⟩
    have ha' := Lib.hid (ha.out.bel (Nat.le_trans hB HB.size) hb1)
    replace HB := below_then HB hb1
    clear hb1 hrg ha
    go_wp2_with fail
    go_roundg (n - (k + 1))
    case measure => have := hr.out.1; omega
    case rel =>
     refine ⟨k + 1, by omega, by go_num, Lib.hid ⟨rfl, ?_⟩, HB, ha'⟩
     rw [List.take_succ_eq_append_getElem hkl.out, List.any_append, hr.out.2, hx.out]
     simp [hv.out]
   ·rw [hv] at HCx
    have hE : Hid (l.any pred = true) := Lib.hid (List.any_eq_true.2 ⟨x, hmem, hv⟩)
    clear hv
    go_wp2_with (first | (refine wpList_load_mid rfl 60 (.tmp 14) rfl b (off + k * 6) (by simp [Act.eval]) (enc x) _ hrg Tryz.underlying60 rfl (by rw [henc]; kernel_rfl) ?_) | fail)
    refine (HCx.out _ HB).mono ?_
    rintro e w1 ⟨rfl, hb1⟩
    replace HB := below_then HB hb1
    clear hb1
    go_wp2_with fail
    go_ret
    exact ⟨⟨(k : Int), rfl, .inr ⟨hE.out, by omega⟩⟩, HB⟩
  ·have hE : Hid (l.any pred = false) := Lib.hid (by
    have := hr.out.2
    rwa [List.take_of_length_le (by have := hn.out; omega)] at this)
   go_wp2_with fail
   go_ret
   exact ⟨⟨-1, rfl, .inl ⟨hE.out, rfl⟩⟩, HB⟩
set_option maxRecDepth 100000 in
set_option maxHeartbeats 1000000 in
theorem contBox {α : Type} (enc : α → List Value) (henc : ∀ x, (enc x).length = 6) (l : List α) (ao : Option Addr) (cap : Nat) (hl : l.length ≤ cap) (hc : cap ≤ 9223372036854775807) (B : Nat) (w : World) (hB : B ≤ w.heap.size) (ha : Hid (RowAt enc 6 B w ao l)) (F : FuncId) (hF : ∀ args w, (callFunc F args).run Tryz.prog w = .ok (.enter F args) w) (pred : α → Bool) (HC : Hid (∀ x ∈ l, ∀ W, Below w.heap.size w W → Calls Tryz.prog F #[.agg (enc x).toArray] W fun e w' => e = .returned (.bool (pred x)) ∧ Below W.heap.size W w')) :
  Calls Tryz.prog 41 #[.slice ao l.length cap, .func (.func F) #[] #[]] w fun e w' => e = .returned (.bool (l.any pred)) ∧ Below w.heap.size w w' := by
 have H := idxBox enc henc l ao cap hl hc B w hB ha F hF pred HC
 obtain ⟨n, hn⟩ : ∃ n, l.length = n := ⟨_, rfl⟩
 rw [hn] at H ⊢
 clear hn HC ha hF
 generalize l.any pred = b at *
 replace H := Lib.hid H
 go_enter Tryz.func41, Tryz.ntmps41
 go_wp2_with fail
 refine (H.out).mono ?_
 rintro e w1 ⟨⟨i, rfl, h⟩, HB⟩
 rcases h with ⟨rfl, rfl⟩ | ⟨rfl, h⟩
 ·go_wp2_with fail
  go_ret
  exact ⟨rfl, HB⟩
 ·go_wp2_with fail
  go_ret
  exact ⟨rfl, HB⟩
set_option maxRecDepth 100000 in
set_option maxHeartbeats 1000000 in
theorem idxBar {α : Type} (enc : α → List Value) (henc : ∀ x, (enc x).length = 5) (l : List α) (ao : Option Addr) (cap : Nat) (hl : l.length ≤ cap) (hc : cap ≤ 9223372036854775807) (B : Nat) (w : World) (hB : B ≤ w.heap.size) (ha : Hid (RowAt enc 5 B w ao l)) (F : FuncId) (hF : ∀ args w, (callFunc F args).run Tryz.prog w = .ok (.enter F args) w) (pred : α → Bool) (HC : Hid (∀ x ∈ l, ∀ W, Below w.heap.size w W → Calls Tryz.prog F #[.agg (enc x).toArray] W fun e w' => e = .returned (.bool (pred x)) ∧ Below W.heap.size W w')) :
  Calls Tryz.prog 79 #[.slice ao l.length cap, .func (.func F) #[] #[]] w fun e w' => (∃ i : Int, e = .returned (.int .i64 i) ∧ (l.any pred = false ∧ i = -1 ∨ l.any pred = true ∧ 0 ≤ i)) ∧ Below w.heap.size w w' := by
 obtain ⟨n, hn⟩ : ∃ n, l.length = n := ⟨_, rfl⟩
 rw [hn] at hl ⊢
 replace hn := Lib.hid hn
 go_enter Tryz.func79, Tryz.ntmps79
 go_wp2_with fail
 go_loopg [8] n (fun g i wr => ∃ k : Nat, k ≤ n ∧ i = .int .i64 (k : Int) ∧ Hid (g = n - k ∧ (l.take k).any pred = false) ∧ Below w.heap.size w wr ∧ Hid (RowAt enc 5 B wr ao l))
 case atStart => exact ⟨0, Nat.zero_le _, rfl, Lib.hid ⟨rfl, rfl⟩, Below.refl _ _, ha⟩
 case round =>
  clear ha
  obtain ⟨k, hk, rfl, hr, HB, ha⟩ := hrel
  by_cases hlt : k < n
  ·have hkl : Hid (k < l.length) := Lib.hid (by rw [hn.out]; exact hlt)
   obtain ⟨b, off, rfl, hblt, hc⟩ := ha.out k hkl.out
   obtain ⟨x, hx⟩ : ∃ x, l[k]'hkl.out = x := ⟨_, rfl⟩
   have hrg : wr.rangeAt b (off + k * 5) (enc x) := fun j v hj => hc j v (by rw [hx]; exact hj)
   have hmem : x ∈ l := hx ▸ List.getElem_mem hkl.out
   have HCx : Hid (∀ W, Below w.heap.size w W → Calls Tryz.prog F #[.agg (enc x).toArray] W fun e w' => e = .returned (.bool (pred x)) ∧ Below W.heap.size W w') := Lib.hid (HC.out x hmem)
   replace hx := Lib.hid hx
   clear hc hblt
   cases hv : pred x
   ·rw [hv] at HCx
    replace hv := Lib.hid hv
    go_wp2_with (first | (refine wpList_load_mid rfl 56 (.tmp 14) rfl b (off + k * 5) (by simp [Act.eval]) (enc x) _ hrg Tryz.underlying56 rfl (by rw [henc]; kernel_rfl) ?_) | fail)
    refine (HCx.out _ HB).mono ?_
    rintro e w1 ⟨rfl, hb1⟩
    have ha' := Lib.hid (ha.out.bel (Nat.le_trans hB HB.size) hb1)
    replace HB := below_then HB hb1
    clear hb1 hrg ha
    go_wp2_with fail
    go_roundg (n - (k + 1))
    case measure => have := hr.out.1; omega
    case rel =>
     refine ⟨k + 1, by omega, by go_num, Lib.hid ⟨rfl, ?_⟩, HB, ha'⟩
     rw [List.take_succ_eq_append_getElem hkl.out, List.any_append, hr.out.2, hx.out]
     simp [hv.out]
   ·rw [hv] at HCx
    have hE : Hid (l.any pred = true) := Lib.hid (List.any_eq_true.2 ⟨x, hmem, hv⟩)
    clear hv
    go_wp2_with (first | (refine wpList_load_mid rfl 56 (.tmp 14) rfl b (off + k * 5) (by simp [Act.eval]) (enc x) _ hrg Tryz.underlying56 rfl (by rw [henc]; kernel_rfl) ?_) | fail)
    refine (HCx.out _ HB).mono ?_
    rintro e w1 ⟨rfl, hb1⟩
    replace HB := below_then HB hb1
    clear hb1
    go_wp2_with fail
    go_ret
    exact ⟨⟨(k : Int), rfl, .inr ⟨hE.out, by omega⟩⟩, HB⟩
  ·have hE : Hid (l.any pred = false) := Lib.hid (by
    have := hr.out.2
    rwa [List.take_of_length_le (by have := hn.out; omega)] at this)
   go_wp2_with fail
   go_ret
   exact ⟨⟨-1, rfl, .inl ⟨hE.out, rfl⟩⟩, HB⟩
set_option maxRecDepth 100000 in
set_option maxHeartbeats 1000000 in
theorem contBar {α : Type} (enc : α → List Value) (henc : ∀ x, (enc x).length = 5) (l : List α) (ao : Option Addr) (cap : Nat) (hl : l.length ≤ cap) (hc : cap ≤ 9223372036854775807) (B : Nat) (w : World) (hB : B ≤ w.heap.size) (ha : Hid (RowAt enc 5 B w ao l)) (F : FuncId) (hF : ∀ args w, (callFunc F args).run Tryz.prog w = .ok (.enter F args) w) (pred : α → Bool) (HC : Hid (∀ x ∈ l, ∀ W, Below w.heap.size w W → Calls Tryz.prog F #[.agg (enc x).toArray] W fun e w' => e = .returned (.bool (pred x)) ∧ Below W.heap.size W w')) :
  Calls Tryz.prog 42 #[.slice ao l.length cap, .func (.func F) #[] #[]] w fun e w' => e = .returned (.bool (l.any pred)) ∧ Below w.heap.size w w' := by
 have H := idxBar enc henc l ao cap hl hc B w hB ha F hF pred HC
 obtain ⟨n, hn⟩ : ∃ n, l.length = n := ⟨_, rfl⟩
 rw [hn] at H ⊢
 clear hn HC ha hF
 generalize l.any pred = b at *
 replace H := Lib.hid H
 go_enter Tryz.func42, Tryz.ntmps42
 go_wp2_with fail
 refine (H.out).mono ?_
 rintro e w1 ⟨⟨i, rfl, h⟩, HB⟩
 rcases h with ⟨rfl, rfl⟩ | ⟨rfl, h⟩
 ·go_wp2_with fail
  go_ret
  exact ⟨rfl, HB⟩
 ·go_wp2_with fail
  go_ret
  exact ⟨rfl, HB⟩
set_option maxRecDepth 100000 in
set_option maxHeartbeats 1000000 in
theorem idxRun {α : Type} (enc : α → List Value) (henc : ∀ x, (enc x).length = 10) (l : List α) (ao : Option Addr) (cap : Nat) (hl : l.length ≤ cap) (hc : cap ≤ 9223372036854775807) (B : Nat) (w : World) (hB : B ≤ w.heap.size) (ha : Hid (RowAt enc 10 B w ao l)) (F : FuncId) (hF : ∀ args w, (callFunc F args).run Tryz.prog w = .ok (.enter F args) w) (pred : α → Bool) (HC : Hid (∀ x ∈ l, ∀ W, Below w.heap.size w W → Calls Tryz.prog F #[.agg (enc x).toArray] W fun e w' => e = .returned (.bool (pred x)) ∧ Below W.heap.size W w')) :
  Calls Tryz.prog 80 #[.slice ao l.length cap, .func (.func F) #[] #[]] w fun e w' => (∃ i : Int, e = .returned (.int .i64 i) ∧ (l.any pred = false ∧ i = -1 ∨ l.any pred = true ∧ 0 ≤ i)) ∧ Below w.heap.size w w' := by
 obtain ⟨n, hn⟩ : ∃ n, l.length = n := ⟨_, rfl⟩
 rw [hn] at hl ⊢
 replace hn := Lib.hid hn
 go_enter Tryz.func80, Tryz.ntmps80
 go_wp2_with fail
 go_loopg [8] n (fun g i wr => ∃ k : Nat, k ≤ n ∧ i = .int .i64 (k : Int) ∧ Hid (g = n - k ∧ (l.take k).any pred = false) ∧ Below w.heap.size w wr ∧ Hid (RowAt enc 10 B wr ao l))
 case atStart => exact ⟨0, Nat.zero_le _, rfl, Lib.hid ⟨rfl, rfl⟩, Below.refl _ _, ha⟩
 case round =>
  clear ha
  obtain ⟨k, hk, rfl, hr, HB, ha⟩ := hrel
  by_cases hlt : k < n
  ·have hkl : Hid (k < l.length) := Lib.hid (by rw [hn.out]; exact hlt)
   obtain ⟨b, off, rfl, hblt, hc⟩ := ha.out k hkl.out
   obtain ⟨x, hx⟩ : ∃ x, l[k]'hkl.out = x := ⟨_, rfl⟩
   have hrg : wr.rangeAt b (off + k * 10) (enc x) := fun j v hj => hc j v (by rw [hx]; exact hj)
   have hmem : x ∈ l := hx ▸ List.getElem_mem hkl.out
   have HCx : Hid (∀ W, Below w.heap.size w W → Calls Tryz.prog F #[.agg (enc x).toArray] W fun e w' => e = .returned (.bool (pred x)) ∧ Below W.heap.size W w') := Lib.hid (HC.out x hmem)
   replace hx := Lib.hid hx
   clear hc hblt
   cases hv : pred x
   ·rw [hv] at HCx
    replace hv := Lib.hid hv
    go_wp2_with (first | (refine wpList_load_mid rfl 81 (.tmp 14) rfl b (off + k * 10) (by simp [Act.eval]) (enc x) _ hrg Tryz.underlying81 rfl (by rw [henc]; kernel_rfl) ?_) | fail)
    refine (HCx.out _ HB).mono ?_
    rintro e w1 ⟨rfl, hb1⟩
    have ha' := Lib.hid (ha.out.bel (Nat.le_trans hB HB.size) hb1)
    replace HB := below_then HB hb1
    clear hb1 hrg ha
    go_wp2_with fail
    go_roundg (n - (k + 1))
    case measure => have := hr.out.1; omega
    case rel =>
     refine ⟨k + 1, by omega, by go_num, Lib.hid ⟨rfl, ?_⟩, HB, ha'⟩
     rw [List.take_succ_eq_append_getElem hkl.out, List.any_append, hr.out.2, hx.out]
     simp [hv.out]
   ·rw [hv] at HCx
    have hE : Hid (l.any pred = true) := Lib.hid (List.any_eq_true.2 ⟨x, hmem, hv⟩)
    clear hv
    go_wp2_with (first | (refine wpList_load_mid rfl 81 (.tmp 14) rfl b (off + k * 10) (by simp [Act.eval]) (enc x) _ hrg Tryz.underlying81 rfl (by rw [henc]; kernel_rfl) ?_) | fail)
    refine (HCx.out _ HB).mono ?_
    rintro e w1 ⟨rfl, hb1⟩
    replace HB := below_then HB hb1
    clear hb1
    go_wp2_with fail
    go_ret
    exact ⟨⟨(k : Int), rfl, .inr ⟨hE.out, by omega⟩⟩, HB⟩
  ·have hE : Hid (l.any pred = false) := Lib.hid (by
    have := hr.out.2
    rwa [List.take_of_length_le (by have := hn.out; omega)] at this)
   go_wp2_with fail
   go_ret
   exact ⟨⟨-1, rfl, .inl ⟨hE.out, rfl⟩⟩, HB⟩
set_option maxRecDepth 100000 in
set_option maxHeartbeats 1000000 in
theorem contRun {α : Type} (enc : α → List Value) (henc : ∀ x, (enc x).length = 10) (l : List α) (ao : Option Addr) (cap : Nat) (hl : l.length ≤ cap) (hc : cap ≤ 9223372036854775807) (B : Nat) (w : World) (hB : B ≤ w.heap.size) (ha : Hid (RowAt enc 10 B w ao l)) (F : FuncId) (hF : ∀ args w, (callFunc F args).run Tryz.prog w = .ok (.enter F args) w) (pred : α → Bool) (HC : Hid (∀ x ∈ l, ∀ W, Below w.heap.size w W → Calls Tryz.prog F #[.agg (enc x).toArray] W fun e w' => e = .returned (.bool (pred x)) ∧ Below W.heap.size W w')) :
  Calls Tryz.prog 44 #[.slice ao l.length cap, .func (.func F) #[] #[]] w fun e w' => e = .returned (.bool (l.any pred)) ∧ Below w.heap.size w w' := by
 have H := idxRun enc henc l ao cap hl hc B w hB ha F hF pred HC
 obtain ⟨n, hn⟩ : ∃ n, l.length = n := ⟨_, rfl⟩
 rw [hn] at H ⊢
 clear hn HC ha hF
 generalize l.any pred = b at *
 replace H := Lib.hid H
 go_enter Tryz.func44, Tryz.ntmps44
 go_wp2_with fail
 refine (H.out).mono ?_
 rintro e w1 ⟨⟨i, rfl, h⟩, HB⟩
 rcases h with ⟨rfl, rfl⟩ | ⟨rfl, h⟩
 ·go_wp2_with fail
  go_ret
  exact ⟨rfl, HB⟩
 ·go_wp2_with fail
  go_ret
  exact ⟨rfl, HB⟩
set_option maxRecDepth 100000 in
set_option maxHeartbeats 1000000 in
theorem idxJoint {α : Type} (enc : α → List Value) (henc : ∀ x, (enc x).length = 2) (l : List α) (ao : Option Addr) (cap : Nat) (hl : l.length ≤ cap) (hc : cap ≤ 9223372036854775807) (B : Nat) (w : World) (hB : B ≤ w.heap.size) (ha : Hid (RowAt enc 2 B w ao l)) (F : FuncId) (hF : ∀ args w, (callFunc F args).run Tryz.prog w = .ok (.enter F args) w) (pred : α → Bool) (HC : Hid (∀ x ∈ l, ∀ W, Below w.heap.size w W → Calls Tryz.prog F #[.agg (enc x).toArray] W fun e w' => e = .returned (.bool (pred x)) ∧ Below W.heap.size W w')) :
  Calls Tryz.prog 81 #[.slice ao l.length cap, .func (.func F) #[] #[]] w fun e w' => (∃ i : Int, e = .returned (.int .i64 i) ∧ (l.any pred = false ∧ i = -1 ∨ l.any pred = true ∧ 0 ≤ i)) ∧ Below w.heap.size w w' := by
 obtain ⟨n, hn⟩ : ∃ n, l.length = n := ⟨_, rfl⟩
 rw [hn] at hl ⊢
 replace hn := Lib.hid hn
 go_enter Tryz.func81, Tryz.ntmps81
 go_wp2_with fail
 go_loopg [8] n (fun g i wr => ∃ k : Nat, k ≤ n ∧ i = .int .i64 (k : Int) ∧ Hid (g = n - k ∧ (l.take k).any pred = false) ∧ Below w.heap.size w wr ∧ Hid (RowAt enc 2 B wr ao l))
 case atStart => exact ⟨0, Nat.zero_le _, rfl, Lib.hid ⟨rfl, rfl⟩, Below.refl _ _, ha⟩
 case round =>
  clear ha
  obtain ⟨k, hk, rfl, hr, HB, ha⟩ := hrel
  by_cases hlt : k < n
  ·have hkl : Hid (k < l.length) := Lib.hid (by rw [hn.out]; exact hlt)
   obtain ⟨b, off, rfl, hblt, hc⟩ := ha.out k hkl.out
   obtain ⟨x, hx⟩ : ∃ x, l[k]'hkl.out = x := ⟨_, rfl⟩
   have hrg : wr.rangeAt b (off + k * 2) (enc x) := fun j v hj => hc j v (by rw [hx]; exact hj)
   have hmem : x ∈ l := hx ▸ List.getElem_mem hkl.out
   have HCx : Hid (∀ W, Below w.heap.size w W → Calls Tryz.prog F #[.agg (enc x).toArray] W fun e w' => e = .returned (.bool (pred x)) ∧ Below W.heap.size W w') := Lib.hid (HC.out x hmem)
   replace hx := Lib.hid hx
   clear hc hblt
   cases hv : pred x
   ·rw [hv] at HCx
    replace hv := Lib.hid hv
    go_wp2_with (first | (refine wpList_load_mid rfl 84 (.tmp 14) rfl b (off + k * 2) (by simp [Act.eval]) (enc x) _ hrg Tryz.underlying84 rfl (by rw [henc]; kernel_rfl) ?_) | fail)
    refine (HCx.out _ HB).mono ?_
    rintro e w1 ⟨rfl, hb1⟩
    have ha' := Lib.hid (ha.out.bel (Nat.le_trans hB HB.size) hb1)
    replace HB := below_then HB hb1
    clear hb1 hrg ha
    go_wp2_with fail
    go_roundg (n - (k + 1))
    case measure => have := hr.out.1; omega
    case rel =>
     refine ⟨k + 1, by omega, by go_num, Lib.hid ⟨rfl, ?_⟩, HB, ha'⟩
     rw [List.take_succ_eq_append_getElem hkl.out, List.any_append, hr.out.2, hx.out]
     simp [hv.out]
   ·rw [hv] at HCx
    have hE : Hid (l.any pred = true) := Lib.hid (List.any_eq_true.2 ⟨x, hmem, hv⟩)
    clear hv
    go_wp2_with (first | (refine wpList_load_mid rfl 84 (.tmp 14) rfl b (off + k * 2) (by simp [Act.eval]) (enc x) _ hrg Tryz.underlying84 rfl (by rw [henc]; kernel_rfl) ?_) | fail)
    refine (HCx.out _ HB).mono ?_
    rintro e w1 ⟨rfl, hb1⟩
    replace HB := below_then HB hb1
    clear hb1
    go_wp2_with fail
    go_ret
    exact ⟨⟨(k : Int), rfl, .inr ⟨hE.out, by omega⟩⟩, HB⟩
  ·have hE : Hid (l.any pred = false) := Lib.hid (by
    have := hr.out.2
    rwa [List.take_of_length_le (by have := hn.out; omega)] at this)
   go_wp2_with fail
   go_ret
   exact ⟨⟨-1, rfl, .inl ⟨hE.out, rfl⟩⟩, HB⟩
set_option maxRecDepth 100000 in
set_option maxHeartbeats 1000000 in
theorem contJoint {α : Type} (enc : α → List Value) (henc : ∀ x, (enc x).length = 2) (l : List α) (ao : Option Addr) (cap : Nat) (hl : l.length ≤ cap) (hc : cap ≤ 9223372036854775807) (B : Nat) (w : World) (hB : B ≤ w.heap.size) (ha : Hid (RowAt enc 2 B w ao l)) (F : FuncId) (hF : ∀ args w, (callFunc F args).run Tryz.prog w = .ok (.enter F args) w) (pred : α → Bool) (HC : Hid (∀ x ∈ l, ∀ W, Below w.heap.size w W → Calls Tryz.prog F #[.agg (enc x).toArray] W fun e w' => e = .returned (.bool (pred x)) ∧ Below W.heap.size W w')) :
  Calls Tryz.prog 46 #[.slice ao l.length cap, .func (.func F) #[] #[]] w fun e w' => e = .returned (.bool (l.any pred)) ∧ Below w.heap.size w w' := by
 have H := idxJoint enc henc l ao cap hl hc B w hB ha F hF pred HC
 obtain ⟨n, hn⟩ : ∃ n, l.length = n := ⟨_, rfl⟩
 rw [hn] at H ⊢
 clear hn HC ha hF
 generalize l.any pred = b at *
 replace H := Lib.hid H
 go_enter Tryz.func46, Tryz.ntmps46
 go_wp2_with fail
 refine (H.out).mono ?_
 rintro e w1 ⟨⟨i, rfl, h⟩, HB⟩
 rcases h with ⟨rfl, rfl⟩ | ⟨rfl, h⟩
 ·go_wp2_with fail
  go_ret
  exact ⟨rfl, HB⟩
 ·go_wp2_with fail
  go_ret
  exact ⟨rfl, HB⟩
set_option maxRecDepth 100000 in
set_option maxHeartbeats 1000000 in
theorem idxDemand {α : Type} (enc : α → List Value) (henc : ∀ x, (enc x).length = 8) (l : List α) (ao : Option Addr) (cap : Nat) (hl : l.length ≤ cap) (hc : cap ≤ 9223372036854775807) (B : Nat) (w : World) (hB : B ≤ w.heap.size) (ha : Hid (RowAt enc 8 B w ao l)) (F : FuncId) (hF : ∀ args w, (callFunc F args).run Tryz.prog w = .ok (.enter F args) w) (pred : α → Bool) (HC : Hid (∀ x ∈ l, ∀ W, Below w.heap.size w W → Calls Tryz.prog F #[.agg (enc x).toArray] W fun e w' => e = .returned (.bool (pred x)) ∧ Below W.heap.size W w')) :
  Calls Tryz.prog 82 #[.slice ao l.length cap, .func (.func F) #[] #[]] w fun e w' => (∃ i : Int, e = .returned (.int .i64 i) ∧ (l.any pred = false ∧ i = -1 ∨ l.any pred = true ∧ 0 ≤ i)) ∧ Below w.heap.size w w' := by
 obtain ⟨n, hn⟩ : ∃ n, l.length = n := ⟨_, rfl⟩
 rw [hn] at hl ⊢
 replace hn := Lib.hid hn
 go_enter Tryz.func82, Tryz.ntmps82
 go_wp2_with fail
 go_loopg [8] n (fun g i wr => ∃ k : Nat, k ≤ n ∧ i = .int .i64 (k : Int) ∧ Hid (g = n - k ∧ (l.take k).any pred = false) ∧ Below w.heap.size w wr ∧ Hid (RowAt enc 8 B wr ao l))
 case atStart => exact ⟨0, Nat.zero_le _, rfl, Lib.hid ⟨rfl, rfl⟩, Below.refl _ _, ha⟩
 case round =>
  clear ha
  obtain ⟨k, hk, rfl, hr, HB, ha⟩ := hrel
  by_cases hlt : k < n
  ·have hkl : Hid (k < l.length) := Lib.hid (by rw [hn.out]; exact hlt)
   obtain ⟨b, off, rfl, hblt, hc⟩ := ha.out k hkl.out
   obtain ⟨x, hx⟩ : ∃ x, l[k]'hkl.out = x := ⟨_, rfl⟩
   have hrg : wr.rangeAt b (off + k * 8) (enc x) := fun j v hj => hc j v (by rw [hx]; exact hj)
   have hmem : x ∈ l := hx ▸ List.getElem_mem hkl.out
   have HCx : Hid (∀ W, Below w.heap.size w W → Calls Tryz.prog F #[.agg (enc x).toArray] W fun e w' => e = .returned (.bool (pred x)) ∧ Below W.heap.size W w') := Lib.hid (HC.out x hmem)
   replace hx := Lib.hid hx
   clear hc hblt
   cases hv : pred x
   ·rw [hv] at HCx
    replace hv := Lib.hid hv
    go_wp2_with (first | (refine wpList_load_mid rfl 63 (.tmp 14) rfl b (off + k * 8) (by simp [Act.eval]) (enc x) _ hrg Tryz.underlying63 rfl (by rw [henc]; kernel_rfl) ?_) | fail)
    refine (HCx.out _ HB).mono ?_
    rintro e w1 ⟨rfl, hb1⟩
    have ha' := Lib.hid (ha.out.bel (Nat.le_trans hB HB.size) hb1)
    replace HB := below_then HB hb1
    clear hb1 hrg ha
    go_wp2_with fail
    go_roundg (n - (k + 1))
    case measure => have := hr.out.1; omega
    case rel =>
     refine ⟨k + 1, by omega, by go_num, Lib.hid ⟨rfl, ?_⟩, HB, ha'⟩
     rw [List.take_succ_eq_append_getElem hkl.out, List.any_append, hr.out.2, hx.out]
     simp [hv.out]
   ·rw [hv] at HCx
    have hE : Hid (l.any pred = true) := Lib.hid (List.any_eq_true.2 ⟨x, hmem, hv⟩)
    clear hv
    go_wp2_with (first | (refine wpList_load_mid rfl 63 (.tmp 14) rfl b (off + k * 8) (by simp [Act.eval]) (enc x) _ hrg Tryz.underlying63 rfl (by rw [henc]; kernel_rfl) ?_) | fail)
    refine (HCx.out _ HB).mono ?_
    rintro e w1 ⟨rfl, hb1⟩
    replace HB := below_then HB hb1
    clear hb1
    go_wp2_with fail
    go_ret
    exact ⟨⟨(k : Int), rfl, .inr ⟨hE.out, by omega⟩⟩, HB⟩
  ·have hE : Hid (l.any pred = false) := Lib.hid (by
    have := hr.out.2
    rwa [List.take_of_length_le (by have := hn.out; omega)] at this)
   go_wp2_with fail
   go_ret
   exact ⟨⟨-1, rfl, .inl ⟨hE.out, rfl⟩⟩, HB⟩
set_option maxRecDepth 100000 in
set_option maxHeartbeats 1000000 in
theorem contDemand {α : Type} (enc : α → List Value) (henc : ∀ x, (enc x).length = 8) (l : List α) (ao : Option Addr) (cap : Nat) (hl : l.length ≤ cap) (hc : cap ≤ 9223372036854775807) (B : Nat) (w : World) (hB : B ≤ w.heap.size) (ha : Hid (RowAt enc 8 B w ao l)) (F : FuncId) (hF : ∀ args w, (callFunc F args).run Tryz.prog w = .ok (.enter F args) w) (pred : α → Bool) (HC : Hid (∀ x ∈ l, ∀ W, Below w.heap.size w W → Calls Tryz.prog F #[.agg (enc x).toArray] W fun e w' => e = .returned (.bool (pred x)) ∧ Below W.heap.size W w')) :
  Calls Tryz.prog 48 #[.slice ao l.length cap, .func (.func F) #[] #[]] w fun e w' => e = .returned (.bool (l.any pred)) ∧ Below w.heap.size w w' := by
 have H := idxDemand enc henc l ao cap hl hc B w hB ha F hF pred HC
 obtain ⟨n, hn⟩ : ∃ n, l.length = n := ⟨_, rfl⟩
 rw [hn] at H ⊢
 clear hn HC ha hF
 generalize l.any pred = b at *
 replace H := Lib.hid H
 go_enter Tryz.func48, Tryz.ntmps48
 go_wp2_with fail
 refine (H.out).mono ?_
 rintro e w1 ⟨⟨i, rfl, h⟩, HB⟩
 rcases h with ⟨rfl, rfl⟩ | ⟨rfl, h⟩
 ·go_wp2_with fail
  go_ret
  exact ⟨rfl, HB⟩
 ·go_wp2_with fail
  go_ret
  exact ⟨rfl, HB⟩
set_option maxRecDepth 100000 in
set_option maxHeartbeats 1000000 in
theorem idxStep {α : Type} (enc : α → List Value) (henc : ∀ x, (enc x).length = 2) (l : List α) (ao : Option Addr) (cap : Nat) (hl : l.length ≤ cap) (hc : cap ≤ 9223372036854775807) (B : Nat) (w : World) (hB : B ≤ w.heap.size) (ha : Hid (RowAt enc 2 B w ao l)) (F : FuncId) (hF : ∀ args w, (callFunc F args).run Tryz.prog w = .ok (.enter F args) w) (pred : α → Bool) (HC : Hid (∀ x ∈ l, ∀ W, Below w.heap.size w W → Calls Tryz.prog F #[.agg (enc x).toArray] W fun e w' => e = .returned (.bool (pred x)) ∧ Below W.heap.size W w')) :
  Calls Tryz.prog 111 #[.slice ao l.length cap, .func (.func F) #[] #[]] w fun e w' => (∃ i : Int, e = .returned (.int .i64 i) ∧ (l.any pred = false ∧ i = -1 ∨ l.any pred = true ∧ 0 ≤ i)) ∧ Below w.heap.size w w' := by
 obtain ⟨n, hn⟩ : ∃ n, l.length = n := ⟨_, rfl⟩
 rw [hn] at hl ⊢
 replace hn := Lib.hid hn
 go_enter Tryz.func111, Tryz.ntmps111
 go_wp2_with fail
 go_loopg [8] n (fun g i wr => ∃ k : Nat, k ≤ n ∧ i = .int .i64 (k : Int) ∧ Hid (g = n - k ∧ (l.take k).any pred = false) ∧ Below w.heap.size w wr ∧ Hid (RowAt enc 2 B wr ao l))
 case atStart => exact ⟨0, Nat.zero_le _, rfl, Lib.hid ⟨rfl, rfl⟩, Below.refl _ _, ha⟩
 case round =>
  clear ha
  obtain ⟨k, hk, rfl, hr, HB, ha⟩ := hrel
  by_cases hlt : k < n
  ·have hkl : Hid (k < l.length) := Lib.hid (by rw [hn.out]; exact hlt)
   obtain ⟨b, off, rfl, hblt, hc⟩ := ha.out k hkl.out
   obtain ⟨x, hx⟩ : ∃ x, l[k]'hkl.out = x := ⟨_, rfl⟩
   have hrg : wr.rangeAt b (off + k * 2) (enc x) := fun j v hj => hc j v (by rw [hx]; exact hj)
   have hmem : x ∈ l := hx ▸ List.getElem_mem hkl.out
   have HCx : Hid (∀ W, Below w.heap.size w W → Calls Tryz.prog F #[.agg (enc x).toArray] W fun e w' => e = .returned (.bool (pred x)) ∧ Below W.heap.size W w') := Lib.hid (HC.out x hmem)
   replace hx := Lib.hid hx
   clear hc hblt
   cases hv : pred x
   ·rw [hv] at HCx
    replace hv := Lib.hid hv
    go_wp2_with (first | (refine wpList_load_mid rfl 86 (.tmp 14) rfl b (off + k * 2) (by simp [Act.eval]) (enc x) _ hrg Tryz.underlying86 rfl (by rw [henc]; kernel_rfl) ?_) | fail)
    refine (HCx.out _ HB).mono ?_
    rintro e w1 ⟨rfl, hb1⟩
    have ha' := Lib.hid (ha.out.bel (Nat.le_trans hB HB.size) hb1)
    replace HB := below_then HB hb1
    clear hb1 hrg ha
    go_wp2_with fail
    go_roundg (n - (k + 1))
    case measure => have := hr.out.1; omega
    case rel =>
     refine ⟨k + 1, by omega, by go_num, Lib.hid ⟨rfl, ?_⟩, HB, ha'⟩
     rw [List.take_succ_eq_append_getElem hkl.out, List.any_append, hr.out.2, hx.out]
     simp [hv.out]
   ·rw [hv] at HCx
    have hE : Hid (l.any pred = true) := Lib.hid (List.any_eq_true.2 ⟨x, hmem, hv⟩)
    clear hv
    go_wp2_with (first | (refine wpList_load_mid rfl 86 (.tmp 14) rfl b (off + k * 2) (by simp [Act.eval]) (enc x) _ hrg Tryz.underlying86 rfl (by rw [henc]; kernel_rfl) ?_) | fail)
    refine (HCx.out _ HB).mono ?_
    rintro e w1 ⟨rfl, hb1⟩
    replace HB := below_then HB hb1
    clear hb1
    go_wp2_with fail
    go_ret
    exact ⟨⟨(k : Int), rfl, .inr ⟨hE.out, by omega⟩⟩, HB⟩
  ·have hE : Hid (l.any pred = false) := Lib.hid (by
    have := hr.out.2
    rwa [List.take_of_length_le (by have := hn.out; omega)] at this)
   go_wp2_with fail
   go_ret
   exact ⟨⟨-1, rfl, .inl ⟨hE.out, rfl⟩⟩, HB⟩
set_option maxRecDepth 100000 in
set_option maxHeartbeats 1000000 in
theorem contStep {α : Type} (enc : α → List Value) (henc : ∀ x, (enc x).length = 2) (l : List α) (ao : Option Addr) (cap : Nat) (hl : l.length ≤ cap) (hc : cap ≤ 9223372036854775807) (B : Nat) (w : World) (hB : B ≤ w.heap.size) (ha : Hid (RowAt enc 2 B w ao l)) (F : FuncId) (hF : ∀ args w, (callFunc F args).run Tryz.prog w = .ok (.enter F args) w) (pred : α → Bool) (HC : Hid (∀ x ∈ l, ∀ W, Below w.heap.size w W → Calls Tryz.prog F #[.agg (enc x).toArray] W fun e w' => e = .returned (.bool (pred x)) ∧ Below W.heap.size W w')) :
  Calls Tryz.prog 83 #[.slice ao l.length cap, .func (.func F) #[] #[]] w fun e w' => e = .returned (.bool (l.any pred)) ∧ Below w.heap.size w w' := by
 have H := idxStep enc henc l ao cap hl hc B w hB ha F hF pred HC
 obtain ⟨n, hn⟩ : ∃ n, l.length = n := ⟨_, rfl⟩
 rw [hn] at H ⊢
 clear hn HC ha hF
 generalize l.any pred = b at *
 replace H := Lib.hid H
 go_enter Tryz.func83, Tryz.ntmps83
 go_wp2_with fail
 refine (H.out).mono ?_
 rintro e w1 ⟨⟨i, rfl, h⟩, HB⟩
 rcases h with ⟨rfl, rfl⟩ | ⟨rfl, h⟩
 ·go_wp2_with fail
  go_ret
  exact ⟨rfl, HB⟩
 ·go_wp2_with fail
  go_ret
  exact ⟨rfl, HB⟩
set_option maxRecDepth 100000 in
set_option maxHeartbeats 1000000 in
theorem idxInt (l : List Int) (ao : Option Addr) (cap : Nat) (hl : l.length ≤ cap) (hc : cap ≤ 9223372036854775807) (B : Nat) (w : World) (hB : B ≤ w.heap.size) (ha : Hid (RowAt encZ 1 B w ao l)) (F : FuncId) (hF : ∀ args w, (callFunc F args).run Tryz.prog w = .ok (.enter F args) w) (pred : Int → Bool) (HC : Hid (∀ x ∈ l, ∀ W, Below w.heap.size w W → Calls Tryz.prog F #[.int .i64 x] W fun e w' => e = .returned (.bool (pred x)) ∧ Below W.heap.size W w')) :
  Calls Tryz.prog 109 #[.slice ao l.length cap, .func (.func F) #[] #[]] w fun e w' => (∃ i : Int, e = .returned (.int .i64 i) ∧ (l.any pred = false ∧ i = -1 ∨ l.any pred = true ∧ 0 ≤ i)) ∧ Below w.heap.size w w' := by
 obtain ⟨n, hn⟩ : ∃ n, l.length = n := ⟨_, rfl⟩
 rw [hn] at hl ⊢
 replace hn := Lib.hid hn
 go_enter Tryz.func109, Tryz.ntmps109
 go_wp2_with fail
 go_loopg [8] n (fun g i wr => ∃ k : Nat, k ≤ n ∧ i = .int .i64 (k : Int) ∧ Hid (g = n - k ∧ (l.take k).any pred = false) ∧ Below w.heap.size w wr ∧ Hid (RowAt encZ 1 B wr ao l))
 case atStart => exact ⟨0, Nat.zero_le _, rfl, Lib.hid ⟨rfl, rfl⟩, Below.refl _ _, ha⟩
 case round =>
  clear ha
  obtain ⟨k, hk, rfl, hr, HB, ha⟩ := hrel
  by_cases hlt : k < n
  ·have hkl : Hid (k < l.length) := Lib.hid (by rw [hn.out]; exact hlt)
   obtain ⟨b, off, rfl, hblt, hc⟩ := ha.out k hkl.out
   obtain ⟨x, hx⟩ : ∃ x, l[k]'hkl.out = x := ⟨_, rfl⟩
   have hrg : wr.cell? ⟨b, off + k, none⟩ = some (.int .i64 x) := by
    have := hc 0 (.int .i64 x) (by rw [hx]; rfl)
    rwa [Nat.mul_one, Nat.add_zero] at this
   have hmem : x ∈ l := hx ▸ List.getElem_mem hkl.out
   have HCx : Hid (∀ W, Below w.heap.size w W → Calls Tryz.prog F #[.int .i64 x] W fun e w' => e = .returned (.bool (pred x)) ∧ Below W.heap.size W w') := Lib.hid (HC.out x hmem)
   replace hx := Lib.hid hx
   clear hc hblt
   cases hv : pred x
   ·rw [hv] at HCx
    replace hv := Lib.hid hv
    go_wp2_with fail
    refine (HCx.out _ HB).mono ?_
    rintro e w1 ⟨rfl, hb1⟩
    have ha' := Lib.hid (ha.out.bel (Nat.le_trans hB HB.size) hb1)
    replace HB := below_then HB hb1
    clear hb1 hrg ha
    go_wp2_with fail
    go_roundg (n - (k + 1))
    case measure => have := hr.out.1; omega
    case rel =>
     refine ⟨k + 1, by omega, by go_num, Lib.hid ⟨rfl, ?_⟩, HB, ha'⟩
     rw [List.take_succ_eq_append_getElem hkl.out, List.any_append, hr.out.2, hx.out]
     simp [hv.out]
   ·rw [hv] at HCx
    have hE : Hid (l.any pred = true) := Lib.hid (List.any_eq_true.2 ⟨x, hmem, hv⟩)
    clear hv
    go_wp2_with fail
    refine (HCx.out _ HB).mono ?_
    rintro e w1 ⟨rfl, hb1⟩
    replace HB := below_then HB hb1
    clear hb1
    go_wp2_with fail
    go_ret
    exact ⟨⟨(k : Int), rfl, .inr ⟨hE.out, by omega⟩⟩, HB⟩
  ·have hE : Hid (l.any pred = false) := Lib.hid (by
    have := hr.out.2
    rwa [List.take_of_length_le (by have := hn.out; omega)] at this)
   go_wp2_with fail
   go_ret
   exact ⟨⟨-1, rfl, .inl ⟨hE.out, rfl⟩⟩, HB⟩
set_option maxRecDepth 100000 in
set_option maxHeartbeats 1000000 in
theorem contInt (l : List Int) (ao : Option Addr) (cap : Nat) (hl : l.length ≤ cap) (hc : cap ≤ 9223372036854775807) (B : Nat) (w : World) (hB : B ≤ w.heap.size) (ha : Hid (RowAt encZ 1 B w ao l)) (F : FuncId) (hF : ∀ args w, (callFunc F args).run Tryz.prog w = .ok (.enter F args) w) (pred : Int → Bool) (HC : Hid (∀ x ∈ l, ∀ W, Below w.heap.size w W → Calls Tryz.prog F #[.int .i64 x] W fun e w' => e = .returned (.bool (pred x)) ∧ Below W.heap.size W w')) :
  Calls Tryz.prog 74 #[.slice ao l.length cap, .func (.func F) #[] #[]] w fun e w' => e = .returned (.bool (l.any pred)) ∧ Below w.heap.size w w' := by
 have H := idxInt l ao cap hl hc B w hB ha F hF pred HC
 obtain ⟨n, hn⟩ : ∃ n, l.length = n := ⟨_, rfl⟩
 rw [hn] at H ⊢
 clear hn HC ha hF
 generalize l.any pred = b at *
 replace H := Lib.hid H
 go_enter Tryz.func74, Tryz.ntmps74
 go_wp2_with fail
 refine (H.out).mono ?_
 rintro e w1 ⟨⟨i, rfl, h⟩, HB⟩
 rcases h with ⟨rfl, rfl⟩ | ⟨rfl, h⟩
 ·go_wp2_with fail
  go_ret
  exact ⟨rfl, HB⟩
 ·go_wp2_with fail
  go_ret
  exact ⟨rfl, HB⟩
end Go.Proofs.YtccakklnbhcbdaaGreatDoor
