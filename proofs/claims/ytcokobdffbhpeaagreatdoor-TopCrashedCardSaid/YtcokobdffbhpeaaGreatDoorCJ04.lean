/- shape: legs, dimensions, valid bars. site: rows of bundles, entries and names in memory; the reference's Find and Short. site: the reference's bundles: Short, Valid. site: the reference's valid bundles. -/
import Derived.Test.YtcokobdffbhpeaaGreatDoorCJ03
import Derived.Test.YtcokobdffbhpeaaGreatDoorCJ01
set_option linter.unusedVariables false
namespace Go.Proofs.YtcokobdffbhpeaaGreatDoor
open Go.ChangeShapes Go.WideShapes Go.ChangeAt Go.RowKit
def encL (x : Nat × Nat) : List Value := [.int .i64 (x.1 : Int), .int .u8 (x.2 : Int)]
theorem encL_len (x : Nat × Nat) : (encL x).length = 2 := rfl
def IsL (l : List (Nat × Nat)) (v : Value) (w : World) : Prop := ∃ a c, v = .slice a l.length c ∧ l.length ≤ c ∧ c ≤ 9223372036854775807 ∧ RowAt encL 2 w.heap.size w a l
theorem IsL.up {l : List (Nat × Nat)} {v : Value} {w w' : World} (h : IsL l v w) (hb : Below w.heap.size w w') : IsL l v w' := by
  obtain ⟨a, c, h1, h2, h3, h4⟩ := h
  exact ⟨a, c, h1, h2, h3, (h4.bel (Nat.le_refl _) hb).mono hb.size⟩
theorem isL_new {w : World} {g : Nat} {t : TypeId} {l : List (Nat × Nat)} (h : At w g t (l.flatMap encL).toArray) (hl : l.length ≤ 9223372036854775807) : IsL l (.slice (some ⟨g, 0, none⟩) l.length l.length) w := by
  refine ⟨_, _, rfl, Nat.le_refl _, hl, fun k hk => ⟨g, 0, rfl, h.lt, fun j u hu => ?_⟩⟩
  have hj : j < 2 := by
    have := (List.getElem?_eq_some_iff.1 hu).1
    rwa [encL_len] at this
  rw [h.c]
  have := flat_at encL_len l k hk j hj
  rw [Nat.zero_add]
  simp only [List.getElem?_toArray]
  rw [this, hu]
set_option maxRecDepth 100000 in
set_option maxHeartbeats 1000000 in
theorem legs_any (c : Int) (w : World) : Calls Tryz.prog 83 #[.int .i64 c] w fun e w' => (∃ v, e = .returned v ∧ IsL (legsL c) v w') ∧ Below w.heap.size w w' := by
  rcases legsL_or c with h | ⟨⟨h0, h1, h2, h3, h4, h5, h6, h7⟩, h⟩
  · rcases h with rfl | rfl | rfl | rfl | rfl | rfl | rfl | rfl
    all_goals
      go_enter Tryz.func83, Tryz.ntmps83
      go_wp2_with fail
      generalize hWW : World.alloc _ _ = WW
      have HB : Below w.heap.size w WW := by rw [← hWW]; exact below_al (Below.refl _ _) _
      go_ret
      exact ⟨⟨_, rfl, isL_new (g := w.heap.size) (t := 131) (by rw [← hWW]; exact At.new' rfl) (by simp [legsL])⟩, HB⟩
  · rw [h]
    have e0 : (c == 0) = false := by simp [h0]
    have e1 : (c == 11) = false := by simp [h1]
    have e2 : (c == 21) = false := by simp [h2]
    have e3 : (c == 26) = false := by simp [h3]
    have e4 : (c == 31) = false := by simp [h4]
    have e5 : (c == 41) = false := by simp [h5]
    have e6 : (c == 51) = false := by simp [h6]
    have e7 : (c == 98) = false := by simp [h7]
    clear h h0 h1 h2 h3 h4 h5 h6 h7
    go_enter Tryz.func83, Tryz.ntmps83
    go_wp2_with fail
    go_ret
    exact ⟨⟨_, rfl, none, 0, rfl, Nat.le_refl _, by omega, RowAt.nil _ _⟩, Below.refl _ _⟩
theorem RowAt.leg {B : Nat} {w : World} {ao : Option Addr} {l : List (Nat × Nat)} (h : RowAt encL 2 B w ao l) (k : Nat) (hk : k < l.length) : ∃ b off, ao = some ⟨b, off, none⟩ ∧ w.cell? ⟨b, off + k * 2, none⟩ = some (.int .i64 (l[k].1 : Int)) ∧ w.cell? ⟨b, off + k * 2 + 1, none⟩ = some (.int .u8 (l[k].2 : Int)) := by
  obtain ⟨b, off, e, hlt, hc⟩ := h k hk
  exact ⟨b, off, e, hc 0 _ rfl, hc 1 _ rfl⟩
theorem mostD_le (c : Int) : (∀ x ∈ legsL c, x.1 ≤ 4) ∧ (legsL c).length ≤ 6 := by
  rcases legsL_or c with h | ⟨_, h⟩
  · rcases h with rfl | rfl | rfl | rfl | rfl | rfl | rfl | rfl <;> decide
  · rw [h]; decide
theorem mostD_cons (m : Int) (x : Nat × Nat) (l : List (Nat × Nat)) : mostD m (x :: l) = mostD (max m (x.1 : Int)) l := rfl
set_option maxRecDepth 100000 in
set_option maxHeartbeats 1000000 in
theorem dims_any (c : Int) (w : World) : Calls Tryz.prog 69 #[.int .i64 c] w fun e w' => e = .returned (if 0 < dimsN c then .tuple #[.int .i64 (dimsN c), .int .i64 0] else .tuple #[.int .i64 0, .int .i64 11]) ∧ Below w.heap.size w w' := by
  obtain ⟨R, hR⟩ : ∃ R, dimsN c = R := ⟨_, rfl⟩
  rw [hR]
  have HL := Lib.hid (legs_any c w)
  obtain ⟨hle, hfew⟩ := mostD_le c
  unfold dimsN at hR
  generalize legsL c = L at *
  obtain ⟨RV, hRV⟩ : ∃ RV, (if 0 < R then Value.tuple #[.int .i64 R, .int .i64 0] else Value.tuple #[.int .i64 0, .int .i64 11]) = RV := ⟨_, rfl⟩
  rw [hRV]
  replace hRV := Lib.hid hRV
  replace hR := Lib.hid hR
  replace hle := Lib.hid hle
  go_enter Tryz.func69, Tryz.ntmps69
  go_wp2_with fail
  refine (HL.out).mono ?_
  rintro e w1 ⟨⟨v, rfl, a, cc, rfl, h2, h3, h4⟩, HB⟩
  obtain ⟨n, hn⟩ : ∃ n, L.length = n := ⟨_, rfl⟩
  rw [hn] at h2 hfew ⊢
  replace hn := Lib.hid hn
  have ha := Lib.hid h4
  clear HL h4
  go_wp2_with fail
  go_loopg [10, 4] n (fun g i v wr => ∃ (k : Nat) (m : Int), k ≤ n ∧ i = .int .i64 (k : Int) ∧ v = .int .i64 m ∧ (-1 ≤ m ∧ m ≤ 4) ∧ Hid (g = n - k ∧ mostD m (L.drop k) + 1 = R) ∧ Below w.heap.size w wr ∧ Hid (RowAt encL 2 wr.heap.size wr a L))
  case atStart => exact ⟨0, -1, Nat.zero_le _, rfl, rfl, by decide, Lib.hid ⟨rfl, hR.out⟩, HB, ha⟩
  case round =>
    clear ha HB
    obtain ⟨k, m, hk, rfl, rfl, hm, hr, HB, ha⟩ := hrel
    by_cases hlt : k < n
    · have hkl : Hid (k < L.length) := Lib.hid (by rw [hn.out]; exact hlt)
      obtain ⟨b, off, rfl, c0, c1⟩ := ha.out.leg k hkl.out
      have hd := hle.out _ (List.getElem_mem hkl.out)
      have hnx := Lib.hid (show mostD m (L.drop k) = mostD (max m ((L[k]'hkl.out).1 : Int)) (L.drop (k + 1)) by rw [List.drop_eq_getElem_cons hkl.out, mostD_cons])
      obtain ⟨x, hx⟩ : ∃ x, L[k]'hkl.out = x := ⟨_, rfl⟩
      rw [hx] at c0 c1 hd hnx
      clear hx
      obtain ⟨d, y⟩ := x
      dsimp only at c0 c1 hd
      obtain ⟨m2, hm2⟩ : ∃ m2, max m (d : Int) = m2 := ⟨_, rfl⟩
      have e1 : (if m < (d : Int) then (d : Int) else m) = m2 := by rw [← hm2]; split <;> omega
      have hst : Hid (mostD m2 (L.drop (k + 1)) + 1 = R) := Lib.hid (by rw [← hr.out.2, hnx.out, hm2])
      have bm : -1 ≤ m2 ∧ m2 ≤ 4 := by omega
      clear hm2
      go_upto_region 5 with fail
      generalize hWW : World.alloc _ _ = W4
      have ky : At W4 wr.heap.size 131 #[.int .i64 (d : Int), .int .u8 (y : Int)] := by rw [← hWW]; exact At.new' rfl
      have hbW : Below wr.heap.size wr W4 := by rw [← hWW]; exact below_al (Below.refl _ _) _
      have ha' := Lib.hid ((ha.out.bel (Nat.le_refl _) hbW).mono hbW.size)
      replace HB := below_then HB hbW
      have q0 : W4.cell? ⟨wr.heap.size, 0, none⟩ = some (.int .i64 (d : Int)) := ky.c 0
      clear hWW hbW c0 c1 ha
      go_wp2_with fail
      go_roundg (n - (k + 1))
      case measure => have := hr.out.1; omega
      case rel => exact ⟨k + 1, m2, by omega, by go_num, rfl, bm, Lib.hid ⟨rfl, hst.out⟩, HB, ha'⟩
    · have hE : Hid (m + 1 = R) := Lib.hid (by
        have := hr.out.2
        rwa [List.drop_eq_nil_of_le (by have := hn.out; omega)] at this)
      have hE' := hE.out
      by_cases h0 : m < 0
      · have hR0 : Hid (¬ (0 < R)) := Lib.hid (by omega)
        have g0 : decide (m < 0) = true := decide_eq_true h0
        clear hE'
        go_wp2_with fail
        exact bodyPost_ret (v := .tuple #[.int .i64 0, .int .i64 11]) (by simp [results, Tryz.results69, go_sem]) rfl ⟨by rw [← hRV.out, if_neg (by have := hR0.out; omega)], HB⟩
      · have hR0 : Hid (0 < R) := Lib.hid (by omega)
        have g0 : decide (m < 0) = false := decide_eq_false h0
        have w1 : IntKind.i64.wrap (m + 1) = R := by rw [hE', IntWalk.i64_in _ (by omega)]
        clear hE' h0
        go_wp2_with fail
        exact bodyPost_ret (v := .tuple #[.int .i64 R, .int .i64 0]) (by simp [results, Tryz.results69, go_sem]) rfl ⟨by rw [← hRV.out, if_pos hR0.out], HB⟩
end Go.Proofs.YtcokobdffbhpeaaGreatDoor
set_option linter.unusedVariables false
namespace Go.Proofs.YtcokobdffbhpeaaGreatDoor
open Go.ChangeShapes Go.WideShapes Go.ChangeAt Go.RowKit
end Go.Proofs.YtcokobdffbhpeaaGreatDoor
set_option linter.unusedVariables false
namespace Go.Proofs.YtcokobdffbhpeaaGreatDoor
open Go.ChangeShapes Go.WideShapes Go.ChangeAt Go.RowKit
def shortB (l : List Bun) (most : Nat) : Bool := !(decide (most < l.length) && decide (l.length ≤ 1000) || decide (1003 < l.length)) && l.all fun x => decide (x.tag.size ≤ 60) && decide (x.mark.size ≤ 60)
def bunOk (x : Bun) : Bool := nameB (by_ x.tag) && nameB (by_ x.mark) && decide (1 ≤ x.count) && decide (x.count ≤ 1000) && decide (0 ≤ x.mass) && decide (x.mass ≤ 1099511627776)
def bunV (l : List Bun) : Bool := decide (l.length ≤ 1000) && l.all bunOk && decide ((l.map (·.tag)).Nodup)
theorem nodup_iff (ts : List ByteArray) : ts.Nodup ↔ ∀ (k : Nat) (hk : k < ts.length), ix ts ts[k] = k := by
  constructor
  · intro h k hk
    refine ix_here hk rfl fun j hj hjk e => ?_
    have := (List.getElem_inj h).1 e
    omega
  · intro h
    rw [List.nodup_iff_pairwise_ne, List.pairwise_iff_getElem]
    intro i j hi hj hij e
    have h1 := h i hi
    have h2 := h j hj
    rw [e] at h1
    omega
theorem take_all {p : Bun → Bool} {l : List Bun} {k : Nat} (hk : k < l.length) (h : ((l.take k).all p) = true) (hx : p l[k] = true) : ((l.take (k + 1)).all p) = true := by
  rw [List.take_succ_eq_append_getElem hk, List.all_append, h]
  simp [hx]
theorem all_not {p : Bun → Bool} {l : List Bun} {k : Nat} (hk : k < l.length) (hx : p l[k] = false) : l.all p = false := by
  cases h : l.all p
  · rfl
  · have := List.all_eq_true.1 h _ (List.getElem_mem hk)
    rw [hx] at this
    exact absurd this (by decide)
set_option maxRecDepth 100000 in
set_option maxHeartbeats 1000000 in
theorem short36_any (l : List Bun) (most : Nat) (ao : Option Addr) (cap : Nat) (hl : l.length ≤ cap) (hm : most ≤ 1000) (hc : cap ≤ 9223372036854775807) (B : Nat) (w : World) (ha : Hid (RowAt encB 4 B w ao l)) :
    Calls Tryz.prog 5 #[.slice ao l.length cap, .int .i64 (most : Int)] w fun e w' => e = .returned (.bool (shortB l most)) ∧ w = w' := by
  obtain ⟨R, hR⟩ : ∃ R, shortB l most = R := ⟨_, rfl⟩
  rw [hR]
  obtain ⟨n, hn'⟩ : ∃ n, l.length = n := ⟨_, rfl⟩
  unfold shortB at hR
  rw [hn'] at hl hR ⊢
  replace hn' := Lib.hid hn'
  by_cases a1 : most < n ∧ n ≤ 1000
  · obtain ⟨a1, a2⟩ := a1
    have hE : Hid (R = false) := Lib.hid (by rw [← hR]; simp [a1, a2])
    clear hR
    go_enter Tryz.func5, Tryz.ntmps5
    go_wp2_with fail
    go_ret
    exact ⟨by rw [hE.out]; rfl, rfl⟩
  by_cases a3 : 1003 < n
  · have a2 : ¬ n ≤ 1000 := by omega
    have a4 : most < n := by omega
    have hE : Hid (R = false) := Lib.hid (by rw [← hR]; simp [a3])
    clear hR
    go_enter Tryz.func5, Tryz.ntmps5
    go_wp2_with fail
    go_ret
    exact ⟨by rw [hE.out]; rfl, rfl⟩
  have hR2 : Hid ((l.all fun x => decide (x.tag.size ≤ 60) && decide (x.mark.size ≤ 60)) = R) := Lib.hid (by
    rw [← hR]
    have e1 : (decide (most < n) && decide (n ≤ 1000)) = false := by simpa using a1
    have e2 : decide (1003 < n) = false := by simpa using a3
    rw [e1, e2]; rfl)
  clear hR
  have b0 : Hid (n ≤ 1003) := Lib.hid (by omega)
  have hgo : Calls Tryz.prog 5 #[.slice ao n cap, .int .i64 (most : Int)] w fun e w' => e = .returned (.bool R) ∧ w = w' := by
    go_enter Tryz.func5, Tryz.ntmps5
    by_cases a4 : most < n
    · have a5 : ¬ n ≤ 1000 := by omega
      clear a1
      go_wp2_with fail
      go_loopg [5] n (fun g i wr => ∃ k : Nat, k ≤ n ∧ i = .int .i64 (k : Int) ∧ Hid (g = n - k ∧ ((l.take k).all fun x => decide (x.tag.size ≤ 60) && decide (x.mark.size ≤ 60)) = true) ∧ w = wr)
      case atStart => exact ⟨0, Nat.zero_le _, rfl, Lib.hid ⟨rfl, rfl⟩, rfl⟩
      case round =>
        obtain ⟨k, hk, rfl, hr, rfl⟩ := hrel
        have b1 := b0.out
        by_cases hlt : k < n
        · have hkl : Hid (k < l.length) := Lib.hid (by rw [hn'.out]; exact hlt)
          obtain ⟨b, off, rfl, c0, c1, c2, c3, hb⟩ := ha.out.bun k hkl.out
          obtain ⟨x, hx⟩ : ∃ x, l[k]'hkl.out = x := ⟨_, rfl⟩
          rw [hx] at c0 c1
          replace hx := Lib.hid hx
          obtain ⟨xt, xm, xc, xs⟩ := x
          dsimp only at c0 c1
          clear c2 c3 hb
          by_cases h1 : 60 < xt.size
          · have hE : Hid (R = false) := Lib.hid (by rw [← hR2.out]; exact all_not hkl.out (by rw [hx.out]; simp; omega))
            go_wp2_with fail
            go_ret
            exact ⟨by rw [hE.out]; rfl, rfl⟩
          by_cases h2 : 60 < xm.size
          · have hE : Hid (R = false) := Lib.hid (by rw [← hR2.out]; exact all_not hkl.out (by rw [hx.out]; simp; omega))
            go_wp2_with fail
            go_ret
            exact ⟨by rw [hE.out]; rfl, rfl⟩
          go_wp2_with fail
          go_roundg (n - (k + 1))
          case measure => have := hr.out.1; omega
          case rel => exact ⟨k + 1, by omega, by go_num, Lib.hid ⟨rfl, take_all hkl.out hr.out.2 (by rw [hx.out]; simp; omega)⟩, rfl⟩
        · have hE : Hid (R = true) := Lib.hid (by
            have := hr.out.2
            rw [List.take_of_length_le (by have := hn'.out; omega)] at this
            rw [← hR2.out]; exact this)
          go_wp2_with fail
          go_ret
          exact ⟨by rw [hE.out]; rfl, rfl⟩
    · clear a1
      go_wp2_with fail
      go_loopg [5] n (fun g i wr => ∃ k : Nat, k ≤ n ∧ i = .int .i64 (k : Int) ∧ Hid (g = n - k ∧ ((l.take k).all fun x => decide (x.tag.size ≤ 60) && decide (x.mark.size ≤ 60)) = true) ∧ w = wr)
      case atStart => exact ⟨0, Nat.zero_le _, rfl, Lib.hid ⟨rfl, rfl⟩, rfl⟩
      case round =>
        obtain ⟨k, hk, rfl, hr, rfl⟩ := hrel
        have b1 := b0.out
        by_cases hlt : k < n
        · have hkl : Hid (k < l.length) := Lib.hid (by rw [hn'.out]; exact hlt)
          obtain ⟨b, off, rfl, c0, c1, c2, c3, hb⟩ := ha.out.bun k hkl.out
          obtain ⟨x, hx⟩ : ∃ x, l[k]'hkl.out = x := ⟨_, rfl⟩
          rw [hx] at c0 c1
          replace hx := Lib.hid hx
          obtain ⟨xt, xm, xc, xs⟩ := x
          dsimp only at c0 c1
          clear c2 c3 hb
          by_cases h1 : 60 < xt.size
          · have hE : Hid (R = false) := Lib.hid (by rw [← hR2.out]; exact all_not hkl.out (by rw [hx.out]; simp; omega))
            go_wp2_with fail
            go_ret
            exact ⟨by rw [hE.out]; rfl, rfl⟩
          by_cases h2 : 60 < xm.size
          · have hE : Hid (R = false) := Lib.hid (by rw [← hR2.out]; exact all_not hkl.out (by rw [hx.out]; simp; omega))
            go_wp2_with fail
            go_ret
            exact ⟨by rw [hE.out]; rfl, rfl⟩
          go_wp2_with fail
          go_roundg (n - (k + 1))
          case measure => have := hr.out.1; omega
          case rel => exact ⟨k + 1, by omega, by go_num, Lib.hid ⟨rfl, take_all hkl.out hr.out.2 (by rw [hx.out]; simp; omega)⟩, rfl⟩
        · have hE : Hid (R = true) := Lib.hid (by
            have := hr.out.2
            rw [List.take_of_length_le (by have := hn'.out; omega)] at this
            rw [← hR2.out]; exact this)
          go_wp2_with fail
          go_ret
          exact ⟨by rw [hE.out]; rfl, rfl⟩
  exact hgo
end Go.Proofs.YtcokobdffbhpeaaGreatDoor
set_option linter.unusedVariables false
namespace Go.Proofs.YtcokobdffbhpeaaGreatDoor
open Go.ChangeShapes Go.WideShapes Go.ChangeAt Go.RowKit
theorem bunV_not {l : List Bun} {k : Nat} (hk : k < l.length) (hx : bunOk l[k] = false) : bunV l = false := by
  unfold bunV
  rw [all_not hk hx]
  simp
end Go.Proofs.YtcokobdffbhpeaaGreatDoor
