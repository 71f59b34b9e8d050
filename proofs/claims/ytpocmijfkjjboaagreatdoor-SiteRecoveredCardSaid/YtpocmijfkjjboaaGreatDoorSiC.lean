/- site: the reference's bundles: Short, Valid. -/
import Derived.Test.YtpocmijfkjjboaaGreatDoorSiB
set_option linter.unusedVariables false
namespace Go.Proofs.YtpocmijfkjjboaaGreatDoor
open Go.ChangeShapes Go.WideShapes Go.ChangeAt Go.RowKit

def shortB (l : List Bun) (most : Nat) : Bool := !(decide (most < l.length) && decide (l.length ≤ 1000) || decide (1003 < l.length)) && l.all fun x => decide (x.tag.size ≤ 60) && decide (x.mark.size ≤ 60)
def bunOk (x : Bun) : Bool := nameB (by_ x.tag) && nameB (by_ x.mark) && decide (1 ≤ x.count) && decide (x.count ≤ 1000) && decide (0 ≤ x.mass) && decide (x.mass ≤ 1099511627776)
/-- Bundles are valid. -/
def bunV (l : List Bun) : Bool := decide (l.length ≤ 1000) && l.all bunOk && decide ((l.map (·.tag)).Nodup)
theorem nodup_iff (ts : List ByteArray) : ts.Nodup ↔ ∀ (k : Nat) (hk : k < ts.length), ix ts ts[k] = k := by
  constructor
  · intro h k hk
    refine ix_here hk rfl fun j hj hjk e => ?_
    have := (List.getElem_inj h).1 e
    omega
  · intro h
    rw [List.nodup_iff_pairwise_ne, List.pairwise_iff_getElem]
    intro i j hi hj hij e
    have h1 := h i hi
    have h2 := h j hj
    rw [e] at h1
    omega
theorem take_all {p : Bun → Bool} {l : List Bun} {k : Nat} (hk : k < l.length) (h : ((l.take k).all p) = true) (hx : p l[k] = true) : ((l.take (k + 1)).all p) = true := by
  rw [List.take_succ_eq_append_getElem hk, List.all_append, h]
  simp [hx]
theorem all_not {p : Bun → Bool} {l : List Bun} {k : Nat} (hk : k < l.length) (hx : p l[k] = false) : l.all p = false := by
  cases h : l.all p
  · rfl
  · have := List.all_eq_true.1 h _ (List.getElem_mem hk)
    rw [hx] at this
    exact absurd this (by decide)

set_option maxRecDepth 100000 in
set_option maxHeartbeats 1000000 in
theorem short36_any (l : List Bun) (most : Nat) (ao : Option Addr) (cap : Nat) (hl : l.length ≤ cap) (hm : most ≤ 1000) (hc : cap ≤ 9223372036854775807) (B : Nat) (w : World) (ha : Hid (RowAt encB 4 B w ao l)) :
    Calls Tryz.prog 22 #[.slice ao l.length cap, .int .i64 (most : Int)] w fun e w' => e = .returned (.bool (shortB l most)) ∧ w = w' := by
  obtain ⟨R, hR⟩ : ∃ R, shortB l most = R := ⟨_, rfl⟩
  rw [hR]
  obtain ⟨n, hn'⟩ : ∃ n, l.length = n := ⟨_, rfl⟩
  unfold shortB at hR
  rw [hn'] at hl hR ⊢
  replace hn' := Lib.hid hn'
  by_cases a1 : most < n ∧ n ≤ 1000
  · obtain ⟨a1, a2⟩ := a1
    have hE : Hid (R = false) := Lib.hid (by rw [← hR]; simp [a1, a2])
    clear hR
    go_enter Tryz.func22, Tryz.ntmps22
    go_wp2_with fail
    go_ret
    exact ⟨by rw [hE.out]; rfl, rfl⟩
  by_cases a3 : 1003 < n
  · have a2 : ¬ n ≤ 1000 := by omega
    have a4 : most < n := by omega
    have hE : Hid (R = false) := Lib.hid (by rw [← hR]; simp [a3])
    clear hR
    go_enter Tryz.func22, Tryz.ntmps22
    go_wp2_with fail
    go_ret
    exact ⟨by rw [hE.out]; rfl, rfl⟩
  have hR2 : Hid ((l.all fun x => decide (x.tag.size ≤ 60) && decide (x.mark.size ≤ 60)) = R) := Lib.hid (by
    rw [← hR]
    have e1 : (decide (most < n) && decide (n ≤ 1000)) = false := by simpa using a1
    have e2 : decide (1003 < n) = false := by simpa using a3
    rw [e1, e2]; rfl)
  clear hR
  have b0 : Hid (n ≤ 1003) := Lib.hid (by omega)
  have hgo : Calls Tryz.prog 22 #[.slice ao n cap, .int .i64 (most : Int)] w fun e w' => e = .returned (.bool R) ∧ w = w' := by
    go_enter Tryz.func22, Tryz.ntmps22
    by_cases a4 : most < n
    · have a5 : ¬ n ≤ 1000 := by omega
      clear a1
      go_wp2_with fail
      go_loopg [5] n (fun g i wr => ∃ k : Nat, k ≤ n ∧ i = .int .i64 (k : Int) ∧ Hid (g = n - k ∧ ((l.take k).all fun x => decide (x.tag.size ≤ 60) && decide (x.mark.size ≤ 60)) = true) ∧ w = wr)
      case atStart => exact ⟨0, Nat.zero_le _, rfl, Lib.hid ⟨rfl, rfl⟩, rfl⟩
      case round =>
        obtain ⟨k, hk, rfl, hr, rfl⟩ := hrel
        have b1 := b0.out
        by_cases hlt : k < n
        · have hkl : Hid (k < l.length) := Lib.hid (by rw [hn'.out]; exact hlt)
          obtain ⟨b, off, rfl, c0, c1, c2, c3, hb⟩ := ha.out.bun k hkl.out
          obtain ⟨x, hx⟩ : ∃ x, l[k]'hkl.out = x := ⟨_, rfl⟩
          rw [hx] at c0 c1
          replace hx := Lib.hid hx
          obtain ⟨xt, xm, xc, xs⟩ := x
          dsimp only at c0 c1
          clear c2 c3 hb
          by_cases h1 : 60 < xt.size
          · have hE : Hid (R = false) := Lib.hid (by rw [← hR2.out]; exact all_not hkl.out (by rw [hx.out]; simp; omega))
            go_wp2_with fail
            go_ret
            exact ⟨by rw [hE.out]; rfl, rfl⟩
          by_cases h2 : 60 < xm.size
          · have hE : Hid (R = false) := Lib.hid (by rw [← hR2.out]; exact all_not hkl.out (by rw [hx.out]; simp; omega))
            go_wp2_with fail
            go_ret
            exact ⟨by rw [hE.out]; rfl, rfl⟩
          go_wp2_with fail
          go_roundg (n - (k + 1))
          case measure => have := hr.out.1; omega
          case rel => exact ⟨k + 1, by omega, by go_num, Lib.hid ⟨rfl, take_all hkl.out hr.out.2 (by rw [hx.out]; simp; omega)⟩, rfl⟩
        · have hE : Hid (R = true) := Lib.hid (by
            have := hr.out.2
            rw [List.take_of_length_le (by have := hn'.out; omega)] at this
            rw [← hR2.out]; exact this)
          go_wp2_with fail
          go_ret
          exact ⟨by rw [hE.out]; rfl, rfl⟩
    · clear a1
      go_wp2_with fail
      go_loopg [5] n (fun g i wr => ∃ k : Nat, k ≤ n ∧ i = .int .i64 (k : Int) ∧ Hid (g = n - k ∧ ((l.take k).all fun x => decide (x.tag.size ≤ 60) && decide (x.mark.size ≤ 60)) = true) ∧ w = wr)
      case atStart => exact ⟨0, Nat.zero_le _, rfl, Lib.hid ⟨rfl, rfl⟩, rfl⟩
      case round =>
        obtain ⟨k, hk, rfl, hr, rfl⟩ := hrel
        have b1 := b0.out
        by_cases hlt : k < n
        · have hkl : Hid (k < l.length) := Lib.hid (by rw [hn'.out]; exact hlt)
          obtain ⟨b, off, rfl, c0, c1, c2, c3, hb⟩ := ha.out.bun k hkl.out
          obtain ⟨x, hx⟩ : ∃ x, l[k]'hkl.out = x := ⟨_, rfl⟩
          rw [hx] at c0 c1
          replace hx := Lib.hid hx
          obtain ⟨xt, xm, xc, xs⟩ := x
          dsimp only at c0 c1
          clear c2 c3 hb
          by_cases h1 : 60 < xt.size
          · have hE : Hid (R = false) := Lib.hid (by rw [← hR2.out]; exact all_not hkl.out (by rw [hx.out]; simp; omega))
            go_wp2_with fail
            go_ret
            exact ⟨by rw [hE.out]; rfl, rfl⟩
          by_cases h2 : 60 < xm.size
          · have hE : Hid (R = false) := Lib.hid (by rw [← hR2.out]; exact all_not hkl.out (by rw [hx.out]; simp; omega))
            go_wp2_with fail
            go_ret
            exact ⟨by rw [hE.out]; rfl, rfl⟩
          go_wp2_with fail
          go_roundg (n - (k + 1))
          case measure => have := hr.out.1; omega
          case rel => exact ⟨k + 1, by omega, by go_num, Lib.hid ⟨rfl, take_all hkl.out hr.out.2 (by rw [hx.out]; simp; omega)⟩, rfl⟩
        · have hE : Hid (R = true) := Lib.hid (by
            have := hr.out.2
            rw [List.take_of_length_le (by have := hn'.out; omega)] at this
            rw [← hR2.out]; exact this)
          go_wp2_with fail
          go_ret
          exact ⟨by rw [hE.out]; rfl, rfl⟩
  exact hgo

end Go.Proofs.YtpocmijfkjjboaaGreatDoor
