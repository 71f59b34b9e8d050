/- shape: legs, dimensions, valid bars. site: rows of bundles, entries and names in memory; the reference's Find and Short. site: the reference's bundles: Short, Valid. site: the reference's valid bundles. -/
import Derived.Test.YtjlkbmaigcgnbaaDoorBJ03
import Derived.Test.YtjlkbmaigcgnbaaDoorBJ01
set_option linter.unusedVariables false
namespace Go.Proofs.YtjlkbmaigcgnbaaDoor
open Go.ChangeShapes Go.WideShapes Go.ChangeAt Go.RowKit
def encL (x : Nat × Nat) : List Value := [.int .i64 (x.1 : Int), .int .u8 (x.2 : Int)]
theorem encL_len (x : Nat × Nat) : (encL x).length = 2 := rfl
def IsL (l : List (Nat × Nat)) (v : Value) (w : World) : Prop := ∃ a c, v = .slice a l.length c ∧ l.length ≤ c ∧ c ≤ 9223372036854775807 ∧ RowAt encL 2 w.heap.size w a l
theorem IsL.up {l : List (Nat × Nat)} {v : Value} {w w' : World} (h : IsL l v w) (hb : Below w.heap.size w w') : IsL l v w' := by
  obtain ⟨a, c, h1, h2, h3, h4⟩ := h
  exact ⟨a, c, h1, h2, h3, (h4.bel (Nat.le_refl _) hb).mono hb.size⟩
theorem isL_new {w : World} {g : Nat} {t : TypeId} {l : List (Nat × Nat)} (h : At w g t (l.flatMap encL).toArray) (hl : l.length ≤ 9223372036854775807) : IsL l (.slice (some ⟨g, 0, none⟩) l.length l.length) w := by
  refine ⟨_, _, rfl, Nat.le_refl _, hl, fun k hk => ⟨g, 0, rfl, h.lt, fun j u hu => ?_⟩⟩
  have hj : j < 2 := by
    have := (List.getElem?_eq_some_iff.1 hu).1
    rwa [encL_len] at this
  rw [h.c]
  have := flat_at encL_len l k hk j hj
  rw [Nat.zero_add]
  simp only [List.getElem?_toArray]
  rw [this, hu]
set_option maxRecDepth 100000 in
set_option maxHeartbeats 1000000 in
theorem legs_any (c : Int) (w : World) : Calls Tryd.prog 74 #[.int .i64 c] w fun e w' => (∃ v, e = .returned v ∧ IsL (legsL c) v w') ∧ Below w.heap.size w w' := by
  rcases legsL_or c with h | ⟨⟨h0, h1, h2, h3, h4, h5, h6, h7⟩, h⟩
  · rcases h with rfl | rfl | rfl | rfl | rfl | rfl | rfl | rfl
    all_goals
      go_enter Tryd.func74, Tryd.ntmps74
      go_wp2_with fail
      generalize hWW : World.alloc _ _ = WW
      have HB : Below w.heap.size w WW := by rw [← hWW]; exact below_al (Below.refl _ _) _
      go_ret
      exact ⟨⟨_, rfl, isL_new (g := w.heap.size) (t := 121) (by rw [← hWW]; exact At.new' rfl) (by simp [legsL])⟩, HB⟩
  · rw [h]
    have e0 : (c == 0) = false := by simp [h0]
    have e1 : (c == 11) = false := by simp [h1]
    have e2 : (c == 21) = false := by simp [h2]
    have e3 : (c == 26) = false := by simp [h3]
    have e4 : (c == 31) = false := by simp [h4]
    have e5 : (c == 41) = false := by simp [h5]
    have e6 : (c == 51) = false := by simp [h6]
    have e7 : (c == 98) = false := by simp [h7]
    clear h h0 h1 h2 h3 h4 h5 h6 h7
    go_enter Tryd.func74, Tryd.ntmps74
    go_wp2_with fail
    go_ret
    exact ⟨⟨_, rfl, none, 0, rfl, Nat.le_refl _, by omega, RowAt.nil _ _⟩, Below.refl _ _⟩
theorem RowAt.leg {B : Nat} {w : World} {ao : Option Addr} {l : List (Nat × Nat)} (h : RowAt encL 2 B w ao l) (k : Nat) (hk : k < l.length) : ∃ b off, ao = some ⟨b, off, none⟩ ∧ w.cell? ⟨b, off + k * 2, none⟩ = some (.int .i64 (l[k].1 : Int)) ∧ w.cell? ⟨b, off + k * 2 + 1, none⟩ = some (.int .u8 (l[k].2 : Int)) := by
  obtain ⟨b, off, e, hlt, hc⟩ := h k hk
  exact ⟨b, off, e, hc 0 _ rfl, hc 1 _ rfl⟩
theorem mostD_le (c : Int) : (∀ x ∈ legsL c, x.1 ≤ 4) ∧ (legsL c).length ≤ 6 := by
  rcases legsL_or c with h | ⟨_, h⟩
  · rcases h with rfl | rfl | rfl | rfl | rfl | rfl | rfl | rfl <;> decide
  · rw [h]; decide
theorem mostD_cons (m : Int) (x : Nat × Nat) (l : List (Nat × Nat)) : mostD m (x :: l) = mostD (max m (x.1 : Int)) l := rfl
set_option maxRecDepth 100000 in
set_option maxHeartbeats 1000000 in
theorem dims_any (c : Int) (w : World) : Calls Tryd.prog 58 #[.int .i64 c] w fun e w' => e = .returned (if 0 < dimsN c then .tuple #[.int .i64 (dimsN c), .int .i64 0] else .tuple #[.int .i64 0, .int .i64 11]) ∧ Below w.heap.size w w' := by
  obtain ⟨R, hR⟩ : ∃ R, dimsN c = R := ⟨_, rfl⟩
  rw [hR]
  have HL := Lib.hid (legs_any c w)
  obtain ⟨hle, hfew⟩ := mostD_le c
  unfold dimsN at hR
  generalize legsL c = L at *
  obtain ⟨RV, hRV⟩ : ∃ RV, (if 0 < R then Value.tuple #[.int .i64 R, .int .i64 0] else Value.tuple #[.int .i64 0, .int .i64 11]) = RV := ⟨_, rfl⟩
  rw [hRV]
  replace hRV := Lib.hid hRV
  replace hR := Lib.hid hR
  replace hle := Lib.hid hle
  go_enter Tryd.func58, Tryd.ntmps58
  go_wp2_with fail
  refine (HL.out).mono ?_
  rintro e w1 ⟨⟨v, rfl, a, cc, rfl, h2, h3, h4⟩, HB⟩
  obtain ⟨n, hn⟩ : ∃ n, L.length = n := ⟨_, rfl⟩
  rw [hn] at h2 hfew ⊢
  replace hn := Lib.hid hn
  have ha := Lib.hid h4
  clear HL h4
  go_wp2_with fail
  go_loopg [10, 4] n (fun g i v wr => ∃ (k : Nat) (m : Int), k ≤ n ∧ i = .int .i64 (k : Int) ∧ v = .int .i64 m ∧ (-1 ≤ m ∧ m ≤ 4) ∧ Hid (g = n - k ∧ mostD m (L.drop k) + 1 = R) ∧ Below w.heap.size w wr ∧ Hid (RowAt encL 2 wr.heap.size wr a L))
  case atStart => exact ⟨0, -1, Nat.zero_le _, rfl, rfl, by decide, Lib.hid ⟨rfl, hR.out⟩, HB, ha⟩
  case round =>
    clear ha HB
    obtain ⟨k, m, hk, rfl, rfl, hm, hr, HB, ha⟩ := hrel
    by_cases hlt : k < n
    · have hkl : Hid (k < L.length) := Lib.hid (by rw [hn.out]; exact hlt)
      obtain ⟨b, off, rfl, c0, c1⟩ := ha.out.leg k hkl.out
      have hd := hle.out _ (List.getElem_mem hkl.out)
      have hnx := Lib.hid (show mostD m (L.drop k) = mostD (max m ((L[k]'hkl.out).1 : Int)) (L.drop (k + 1)) by rw [List.drop_eq_getElem_cons hkl.out, mostD_cons])
      obtain ⟨x, hx⟩ : ∃ x, L[k]'hkl.out = x := ⟨_, rfl⟩
      rw [hx] at c0 c1 hd hnx
      clear hx
      obtain ⟨d, y⟩ := x
      dsimp only at c0 c1 hd
      obtain ⟨m2, hm2⟩ : ∃ m2, max m (d : Int) = m2 := ⟨_, rfl⟩
      have e1 : (if m < (d : Int) then (d : Int) else m) = m2 := by rw [← hm2]; split <;> omega
      have hst : Hid (mostD m2 (L.drop (k + 1)) + 1 = R) := Lib.hid (by rw [← hr.out.2, hnx.out, hm2])
      have bm : -1 ≤ m2 ∧ m2 ≤ 4 := by omega
      clear hm2
      go_upto_region 5 with fail
      generalize hWW : World.alloc _ _ = W4
      have ky : At W4 wr.heap.size 121 #[.int .i64 (d : Int), .int .u8 (y : Int)] := by rw [← hWW]; exact At.new' rfl
      have hbW : Below wr.heap.size wr W4 := by rw [← hWW]; exact below_al (Below.refl _ _) _
      have ha' := Lib.hid ((ha.out.bel (Nat.le_refl _) hbW).mono hbW.size)
      replace HB := below_then HB hbW
      have q0 : W4.cell? ⟨wr.heap.size, 0, none⟩ = some (.int .i64 (d : Int)) := ky.c 0
      clear hWW hbW c0 c1 ha
      go_wp2_with fail
      go_roundg (n - (k + 1))
      case measure => have := hr.out.1; omega
      case rel => exact ⟨k + 1, m2, by omega, by go_num, rfl, bm, Lib.hid ⟨rfl, hst.out⟩, HB, ha'⟩
    · have hE : Hid (m + 1 = R) := Lib.hid (by
        have := hr.out.2
        rwa [List.drop_eq_nil_of_le (by have := hn.out; omega)] at this)
      have hE' := hE.out
      by_cases h0 : m < 0
      · have hR0 : Hid (¬ (0 < R)) := Lib.hid (by omega)
        have g0 : decide (m < 0) = true := decide_eq_true h0
        clear hE'
        go_wp2_with fail
        exact bodyPost_ret (v := .tuple #[.int .i64 0, .int .i64 11]) (by simp [results, Tryd.results58, go_sem]) rfl ⟨by rw [← hRV.out, if_neg (by have := hR0.out; omega)], HB⟩
      · have hR0 : Hid (0 < R) := Lib.hid (by omega)
        have g0 : decide (m < 0) = false := decide_eq_false h0
        have w1 : IntKind.i64.wrap (m + 1) = R := by rw [hE', IntWalk.i64_in _ (by omega)]
        clear hE' h0
        go_wp2_with fail
        exact bodyPost_ret (v := .tuple #[.int .i64 R, .int .i64 0]) (by simp [results, Tryd.results58, go_sem]) rfl ⟨by rw [← hRV.out, if_pos hR0.out], HB⟩
end Go.Proofs.YtjlkbmaigcgnbaaDoor
set_option linter.unusedVariables false
namespace Go.Proofs.YtjlkbmaigcgnbaaDoor
open Go.ChangeShapes Go.WideShapes Go.ChangeAt Go.RowKit
end Go.Proofs.YtjlkbmaigcgnbaaDoor
set_option linter.unusedVariables false
namespace Go.Proofs.YtjlkbmaigcgnbaaDoor
open Go.ChangeShapes Go.WideShapes Go.ChangeAt Go.RowKit
def bunOk (x : Bun) : Bool := nameB (by_ x.tag) && nameB (by_ x.mark) && decide (1 ≤ x.count) && decide (x.count ≤ 1000) && decide (0 ≤ x.mass) && decide (x.mass ≤ 1099511627776)
def bunV (l : List Bun) : Bool := decide (l.length ≤ 1000) && l.all bunOk && decide ((l.map (·.tag)).Nodup)
theorem nodup_iff (ts : List ByteArray) : ts.Nodup ↔ ∀ (k : Nat) (hk : k < ts.length), ix ts ts[k] = k := by
  constructor
  · intro h k hk
    refine ix_here hk rfl fun j hj hjk e => ?_
    have := (List.getElem_inj h).1 e
    omega
  · intro h
    rw [List.nodup_iff_pairwise_ne, List.pairwise_iff_getElem]
    intro i j hi hj hij e
    have h1 := h i hi
    have h2 := h j hj
    rw [e] at h1
    omega
theorem take_all {p : Bun → Bool} {l : List Bun} {k : Nat} (hk : k < l.length) (h : ((l.take k).all p) = true) (hx : p l[k] = true) : ((l.take (k + 1)).all p) = true := by
  rw [List.take_succ_eq_append_getElem hk, List.all_append, h]
  simp [hx]
theorem all_not {p : Bun → Bool} {l : List Bun} {k : Nat} (hk : k < l.length) (hx : p l[k] = false) : l.all p = false := by
  cases h : l.all p
  · rfl
  · have := List.all_eq_true.1 h _ (List.getElem_mem hk)
    rw [hx] at this
    exact absurd this (by decide)
end Go.Proofs.YtjlkbmaigcgnbaaDoor
set_option linter.unusedVariables false
namespace Go.Proofs.YtjlkbmaigcgnbaaDoor
open Go.ChangeShapes Go.WideShapes Go.ChangeAt Go.RowKit
theorem bunV_not {l : List Bun} {k : Nat} (hk : k < l.length) (hx : bunOk l[k] = false) : bunV l = false := by
  unfold bunV
  rw [all_not hk hx]
  simp
end Go.Proofs.YtjlkbmaigcgnbaaDoor
