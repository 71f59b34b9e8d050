/- Plain: bars, their shapes, cutting lengths and masses; the bundles of a schedule. steel: sizes, masses, bend radii. -/
import Derived.Test.YtjlkbmaigcgnbaaDoorBJ01
import Derived.Lib.ItoaNum
import Derived.Test.YtjlkbmaigcgnbaaDoorBJ02
set_option linter.unusedVariables false
namespace Go.Proofs.YtjlkbmaigcgnbaaDoor
structure Br where
  mark : ByteArray
  size : Int
  count : Int
  code : Int
  dims : List Int
def sizesL : List Int := [6, 8, 10, 12, 16, 20, 25, 32, 40]
def sizD (d : Int) : Bool := sizesL.contains d
def legsL (c : Int) : List (Nat × Nat) :=
  if c = 0 then [(0, 120)] else if c = 11 then [(0, 120), (1, 121)] else if c = 21 then [(0, 89), (1, 120), (2, 121)]
  else if c = 26 then [(0, 120), (1, 121), (2, 120)] else if c = 31 then [(0, 120), (1, 121), (2, 122)]
  else if c = 41 then [(0, 120), (1, 121), (2, 120), (3, 89), (4, 120)]
  else if c = 51 then [(2, 89), (0, 120), (1, 121), (0, 88), (1, 89), (2, 120)]
  else if c = 98 then [(0, 122), (1, 89), (2, 120), (1, 121), (0, 122)] else []
def mostD (m : Int) (l : List (Nat × Nat)) : Int := l.foldl (fun m x => max m (x.1 : Int)) m
def dimsN (c : Int) : Int := mostD (-1) (legsL c) + 1
def dimsOk : Int → List Int → Bool
  | _, [] => true
  | r, n :: l => decide (1 ≤ n) && decide (n ≤ r) && dimsOk (r - n) l
def barV (b : Br) : Bool := decide (0 < dimsN b.code) && nameB (by_ b.mark) && sizD b.size && decide (1 ≤ b.count) && decide (b.count ≤ 1000) && decide ((b.dims.length : Int) = dimsN b.code) && dimsOk 262144 b.dims
def legL (b : Br) : List Int := (legsL b.code).map fun l => b.dims.getD l.1 0
def bendR (d : Int) : Int := if d ≤ 16 then 5 * d / 2 else 4 * d
def arcLo (d : Int) : Int := 500 * bendR d * 333 / 106
def arcHi (d : Int) : Int := (500 * bendR d * 355 + 112) / 113
def allLo (d : Int) : Int := 2000 * bendR d - arcHi d
def allHi (d : Int) : Int := 2000 * bendR d - arcLo d
def devLo (b : Br) : Int := 1000 * (legL b).sum - ((legL b).length - 1 : Int) * allHi b.size
def devHi (b : Br) : Int := 1000 * (legL b).sum - ((legL b).length - 1 : Int) * allLo b.size
def cutL (b : Br) : Int := max 5 (5 * ((max 0 (devHi b) + 4999) / 5000))
def massOf (d n : Int) : Int := (6165 * d * d * n + 500000) / 1000000
def massB (b : Br) : Int := massOf b.size (cutL b)
def marksD (l : List Br) : Bool := decide ((l.map (·.mark)).Nodup)
def schV (l : List Br) : Bool := decide (l.length ≤ 60) && l.all barV && marksD l
theorem sizD_or {d : Int} (h : sizD d = true) : d = 6 ∨ d = 8 ∨ d = 10 ∨ d = 12 ∨ d = 16 ∨ d = 20 ∨ d = 25 ∨ d = 32 ∨ d = 40 := by
  unfold sizD sizesL at h
  simpa using h
theorem legsL_or (c : Int) : (c = 0 ∨ c = 11 ∨ c = 21 ∨ c = 26 ∨ c = 31 ∨ c = 41 ∨ c = 51 ∨ c = 98) ∨ (c ≠ 0 ∧ c ≠ 11 ∧ c ≠ 21 ∧ c ≠ 26 ∧ c ≠ 31 ∧ c ≠ 41 ∧ c ≠ 51 ∧ c ≠ 98) ∧ legsL c = [] := by
  by_cases h0 : c = 0
  · exact .inl (by omega)
  by_cases h1 : c = 11
  · exact .inl (by omega)
  by_cases h2 : c = 21
  · exact .inl (by omega)
  by_cases h3 : c = 26
  · exact .inl (by omega)
  by_cases h4 : c = 31
  · exact .inl (by omega)
  by_cases h5 : c = 41
  · exact .inl (by omega)
  by_cases h6 : c = 51
  · exact .inl (by omega)
  by_cases h7 : c = 98
  · exact .inl (by omega)
  refine .inr ⟨⟨h0, h1, h2, h3, h4, h5, h6, h7⟩, ?_⟩
  unfold legsL
  rw [if_neg h0, if_neg h1, if_neg h2, if_neg h3, if_neg h4, if_neg h5, if_neg h6, if_neg h7]
theorem dimsOk_le : ∀ (l : List Int) (r : Int), dimsOk r l = true → (∀ n ∈ l, 1 ≤ n ∧ n ≤ 1048576 ∨ 1048576 < r) ∧ (∀ n ∈ l, 1 ≤ n ∧ n ≤ r) ∧ l.sum ≤ max 0 r
  | [], r, _ => ⟨by simp, by simp, by simp; omega⟩
  | n :: l, r, h => by
    unfold dimsOk at h
    simp only [Bool.and_eq_true, decide_eq_true_eq] at h
    obtain ⟨⟨h1, h2⟩, h3⟩ := h
    obtain ⟨-, k2, k3⟩ := dimsOk_le l (r - n) h3
    refine ⟨fun m hm => by
      rcases List.mem_cons.1 hm with rfl | hm
      · omega
      · have := k2 m hm; omega, fun m hm => ?_, ?_⟩
    · rcases List.mem_cons.1 hm with rfl | hm
      · exact ⟨h1, h2⟩
      · have := k2 m hm
        exact ⟨this.1, by omega⟩
    · rw [List.sum_cons]
      omega
structure LegsOk (b : Br) : Prop where
  pos : 1 ≤ (legL b).length
  few : (legL b).length ≤ 6
  each : ∀ n ∈ legL b, 1 ≤ n ∧ n ≤ 262144
  sum : (legL b).sum ≤ 524288
  sum0 : 1 ≤ (legL b).sum
  size : sizD b.size = true
  dim : ∀ x ∈ legsL b.code, x.1 < b.dims.length
theorem barV_legs {b : Br} (h : barV b = true) : LegsOk b := by
  unfold barV at h
  simp only [Bool.and_eq_true, decide_eq_true_eq] at h
  obtain ⟨⟨⟨⟨⟨⟨h1, -⟩, h2⟩, -⟩, -⟩, h3⟩, h4⟩ := h
  obtain ⟨-, k2, k3⟩ := dimsOk_le b.dims 262144 h4
  clear h4
  obtain ⟨mk, sz, ct, c, l⟩ := b
  dsimp only at *
  have hl : ∀ n : Nat, dimsN c = n → l.length = n := fun n hn => by omega
  rcases legsL_or c with h | ⟨_, h⟩
  · rcases h with rfl | rfl | rfl | rfl | rfl | rfl | rfl | rfl
    · match l, hl 1 (by decide), k2, k3 with
      | [x], _, k2, k3 =>
        simp only [List.mem_cons, List.not_mem_nil, forall_eq_or_imp, List.sum_cons, List.sum_nil] at k2 k3
        constructor <;> simp [legL, legsL, h2] <;> omega
    · match l, hl 2 (by decide), k2, k3 with
      | [x, y], _, k2, k3 =>
        simp only [List.mem_cons, List.not_mem_nil, forall_eq_or_imp, List.sum_cons, List.sum_nil] at k2 k3
        constructor <;> simp [legL, legsL, h2] <;> omega
    · match l, hl 3 (by decide), k2, k3 with
      | [x, y, z], _, k2, k3 =>
        simp only [List.mem_cons, List.not_mem_nil, forall_eq_or_imp, List.sum_cons, List.sum_nil] at k2 k3
        constructor <;> simp [legL, legsL, h2] <;> omega
    · match l, hl 3 (by decide), k2, k3 with
      | [x, y, z], _, k2, k3 =>
        simp only [List.mem_cons, List.not_mem_nil, forall_eq_or_imp, List.sum_cons, List.sum_nil] at k2 k3
        constructor <;> simp [legL, legsL, h2] <;> omega
    · match l, hl 3 (by decide), k2, k3 with
      | [x, y, z], _, k2, k3 =>
        simp only [List.mem_cons, List.not_mem_nil, forall_eq_or_imp, List.sum_cons, List.sum_nil] at k2 k3
        constructor <;> simp [legL, legsL, h2] <;> omega
    · match l, hl 5 (by decide), k2, k3 with
      | [x, y, z, u, v], _, k2, k3 =>
        simp only [List.mem_cons, List.not_mem_nil, forall_eq_or_imp, List.sum_cons, List.sum_nil] at k2 k3
        constructor <;> simp [legL, legsL, h2] <;> omega
    · match l, hl 3 (by decide), k2, k3 with
      | [x, y, z], _, k2, k3 =>
        simp only [List.mem_cons, List.not_mem_nil, forall_eq_or_imp, List.sum_cons, List.sum_nil] at k2 k3
        constructor <;> simp [legL, legsL, h2] <;> omega
    · match l, hl 3 (by decide), k2, k3 with
      | [x, y, z], _, k2, k3 =>
        simp only [List.mem_cons, List.not_mem_nil, forall_eq_or_imp, List.sum_cons, List.sum_nil] at k2 k3
        constructor <;> simp [legL, legsL, h2] <;> omega
  · rw [show dimsN c = 0 by unfold dimsN; rw [h]; rfl] at h1
    omega
theorem all_pos {d : Int} (h : sizD d = true) : 0 ≤ allLo d ∧ allLo d ≤ 500000 ∧ 0 ≤ allHi d ∧ allHi d ≤ 500000 := by
  rcases sizD_or h with rfl | rfl | rfl | rfl | rfl | rfl | rfl | rfl | rfl <;> decide
theorem dev_le {b : Br} (h : LegsOk b) : -4000000 ≤ devHi b ∧ devHi b ≤ 524288000 ∧ -4000000 ≤ devLo b ∧ devLo b ≤ 524288000 := by
  have h1 := all_pos h.size
  have h2 := h.sum
  have h3 := h.sum0
  have h4 := h.pos
  have h5 := h.few
  unfold devHi devLo
  generalize (legL b).sum = s at *
  generalize (legL b).length = n at *
  generalize allLo b.size = x at *
  generalize allHi b.size = y at *
  have hn : n = 1 ∨ n = 2 ∨ n = 3 ∨ n = 4 ∨ n = 5 ∨ n = 6 := by omega
  rcases hn with rfl | rfl | rfl | rfl | rfl | rfl <;> simp <;> omega
theorem cut_le {b : Br} (h : LegsOk b) : 5 ≤ cutL b ∧ cutL b ≤ 524290 := by
  have := dev_le h
  unfold cutL
  omega
theorem mass_le {b : Br} (h : LegsOk b) : 1 ≤ massB b ∧ massB b ≤ 10000000 := by
  have := cut_le h
  unfold massB massOf
  generalize cutL b = n at *
  rcases sizD_or h.size with e | e | e | e | e | e | e | e | e <;> rw [e] <;> omega
def splitN (whole : Nat) : Nat → Nat → List Nat
  | 0, _ => []
  | f + 1, n => if n = 0 then [] else min n whole :: splitN whole f (n - min n whole)
theorem splitN_fuel (whole : Nat) (hw : 1 ≤ whole) : ∀ (f n : Nat), n ≤ f → splitN whole f n = splitN whole n n
  | 0, n, h => by rw [show n = 0 by omega]
  | f + 1, n, h => by
    by_cases h0 : n = 0
    · subst h0; rfl
    · obtain ⟨m, rfl⟩ : ∃ m, n = m + 1 := ⟨n - 1, by omega⟩
      unfold splitN
      rw [if_neg h0, if_neg h0, splitN_fuel whole hw f _ (by omega)]
      rw [splitN_fuel whole hw m _ (by omega)]
theorem splitN_next {whole n : Nat} (hw : 1 ≤ whole) (hn : 1 ≤ n) : splitN whole n n = min n whole :: splitN whole (n - min n whole) (n - min n whole) := by
  obtain ⟨m, rfl⟩ : ∃ m, n = m + 1 := ⟨n - 1, by omega⟩
  rw [splitN, if_neg (by omega), splitN_fuel whole hw m _ (by omega)]
theorem splitN_zero (whole : Nat) : splitN whole 0 0 = [] := rfl
def wholeN (most : Int) (b : Br) : Nat := (most / max 1 (massB b)).toNat
def partL (b : Br) (l : List Nat) : List (ByteArray × Int × Int) := l.map fun n : Nat => (b.mark, (n : Int), (n : Int) * massB b)
def rawB (most : Int) (b : Br) : List (ByteArray × Int × Int) := partL b (splitN (wholeN most b) b.count.toNat b.count.toNat)
def rawL (most : Int) (l : List Br) : List (ByteArray × Int × Int) := l.flatMap (rawB most)
def tagN (k : Nat) : ByteArray := ⟨(116 :: Lib.itoa ((k : Int) + 1)).toArray⟩
def tagB (k : Nat) (x : ByteArray × Int × Int) : Bun := ⟨tagN k, x.1, x.2.1, x.2.2⟩
def tagL : Nat → List (ByteArray × Int × Int) → List Bun
  | _, [] => []
  | k, x :: l => tagB k x :: tagL (k + 1) l
def makeL (most : Int) (l : List Br) : List Bun := tagL 0 (rawL most l)
theorem tagL_len : ∀ (k : Nat) (l : List (ByteArray × Int × Int)), (tagL k l).length = l.length
  | _, [] => rfl
  | k, x :: l => by rw [tagL, List.length_cons, tagL_len (k + 1) l, List.length_cons]
theorem rawL_drop {most : Int} {l : List Br} {k : Nat} (h : k < l.length) : rawL most (l.drop k) = rawB most l[k] ++ rawL most (l.drop (k + 1)) := by
  rw [List.drop_eq_getElem_cons h, rawL, List.flatMap_cons]
  rfl
theorem wholeN_pos {most : Int} {b : Br} (h : LegsOk b) (hm : massB b ≤ most) : 1 ≤ wholeN most b := by
  have h1 := mass_le h
  unfold wholeN
  rw [show max 1 (massB b) = massB b by omega]
  have : 1 ≤ most / massB b := by
    have h2 : massB b / massB b = 1 := Int.ediv_self (by omega)
    have h3 : massB b / massB b ≤ most / massB b := Int.ediv_le_ediv (by omega) hm
    omega
  omega
theorem wholeN_mass {most : Int} {b : Br} (h : LegsOk b) (hm : massB b ≤ most) {n : Nat} (hn : n ≤ wholeN most b) : 0 ≤ (n : Int) * massB b ∧ (n : Int) * massB b ≤ most := by
  have h1 := mass_le h
  unfold wholeN at hn
  rw [show max 1 (massB b) = massB b by omega] at hn
  refine ⟨Int.mul_nonneg (by omega) (by omega), ?_⟩
  have h3 : (n : Int) ≤ most / massB b := by
    have : 0 ≤ most / massB b := Int.ediv_nonneg (by omega) (by omega)
    omega
  have h4 : (n : Int) * massB b ≤ most / massB b * massB b := Int.mul_le_mul_of_nonneg_right h3 (by omega)
  have h5 := Int.ediv_mul_le most (show massB b ≠ 0 by omega)
  omega
def makeE (most : Int) (l : List Br) : List Bun × Int :=
  if schV l = false then ([], 1) else if most < 1 ∨ 1099511627776 < most then ([], 2) else if l.any (fun b => decide (most < massB b)) then ([], 20)
  else if 1000 < (rawL most l).length then ([], 4) else (makeL most l, 0)
end Go.Proofs.YtjlkbmaigcgnbaaDoor
set_option linter.unusedVariables false
namespace Go.Proofs.YtjlkbmaigcgnbaaDoor
open Go.ChangeShapes Go.WideShapes Go.ChangeAt Go.RowKit
set_option maxRecDepth 100000 in
set_option maxHeartbeats 1000000 in
theorem sizes_any (w : World) : Calls Tryd.prog 42 #[] w fun e w' => (∃ v, e = .returned v ∧ IsI sizesL v w') ∧ Below w.heap.size w w' := by
  go_enter Tryd.func42, Tryd.ntmps42
  go_wp2_with fail
  generalize hWW : World.alloc _ _ = WW
  have kz : At WW w.heap.size 3 #[.int .i64 6, .int .i64 8, .int .i64 10, .int .i64 12, .int .i64 16, .int .i64 20, .int .i64 25, .int .i64 32, .int .i64 40] := by rw [← hWW]; exact At.new' rfl
  have HB : Below w.heap.size w WW := by rw [← hWW]; exact below_al (Below.refl _ _) _
  clear hWW
  go_ret
  exact ⟨⟨_, rfl, isI_new (l := sizesL) kz (by simp [sizesL])⟩, HB⟩
set_option maxRecDepth 100000 in
set_option maxHeartbeats 1000000 in
theorem indexZ_any (l : List Int) (x : Int) (ao : Option Addr) (cap : Nat) (hl : l.length ≤ cap) (hc : cap ≤ 9223372036854775807) (B : Nat) (w : World) (ha : Hid (RowAt encZ 1 B w ao l)) :
    Calls Tryd.prog 44 #[.slice ao l.length cap, .int .i64 x] w fun e w' => e = .returned (.int .i64 (fxI (fun y => decide (x = y)) l)) ∧ w = w' := by
  obtain ⟨R, hR⟩ : ∃ R, fxI (fun y => decide (x = y)) l = R := ⟨_, rfl⟩
  rw [hR]
  replace hR := Lib.hid hR
  obtain ⟨n, hn⟩ : ∃ n, l.length = n := ⟨_, rfl⟩
  rw [hn] at hl ⊢
  replace hn := Lib.hid hn
  go_enter Tryd.func44, Tryd.ntmps44
  go_wp2_with fail
  go_loopg [8] n (fun g i wr => ∃ k : Nat, k ≤ n ∧ i = .int .i64 (k : Int) ∧ Hid (g = n - k ∧ ∀ (j : Nat) (hj : j < l.length), j < k → decide (x = l[j]) = false) ∧ w = wr)
  case atStart => exact ⟨0, Nat.zero_le _, rfl, Lib.hid ⟨rfl, fun j hj h => absurd h (by omega)⟩, rfl⟩
  case round =>
    obtain ⟨k, hk, rfl, hr, rfl⟩ := hrel
    by_cases hlt : k < n
    · have hkl : Hid (k < l.length) := Lib.hid (by rw [hn.out]; exact hlt)
      obtain ⟨b, off, rfl, c0, hb⟩ := (show RowAt (fun x => [Value.int .i64 x]) 1 B w ao l from ha.out).one k hkl.out
      obtain ⟨y, hy⟩ : ∃ y, l[k]'hkl.out = y := ⟨_, rfl⟩
      rw [hy] at c0
      replace hy := Lib.hid hy
      clear hb
      by_cases he : x = y
      · have hE : Hid (R = (k : Int)) := Lib.hid (by
          rw [← hR.out]
          exact fxI_at hkl.out (by rw [hy.out]; exact decide_eq_true he) hr.out.2)
        have es : (x == y) = true := by simp [he]
        clear he
        go_wp2_with fail
        go_ret
        exact ⟨by rw [hE.out]; rfl, rfl⟩
      · have es : (x == y) = false := by simp [he]
        replace he := Lib.hid he
        go_wp2_with fail
        go_roundg (n - (k + 1))
        case measure => have := hr.out.1; omega
        case rel =>
          refine ⟨k + 1, by omega, by go_num, Lib.hid ⟨rfl, fun j hj hjk => ?_⟩, rfl⟩
          by_cases q : j = k
          · subst q
            rw [hy.out]; exact decide_eq_false he.out
          · exact hr.out.2 j hj (by omega)
    · have hE : Hid (R = -1) := Lib.hid (by
        rw [← hR.out]
        exact fxI_no fun j hj => hr.out.2 j hj (by have := hn.out; omega))
      go_wp2_with fail
      go_ret
      exact ⟨by rw [hE.out]; rfl, rfl⟩
set_option maxRecDepth 100000 in
set_option maxHeartbeats 1000000 in
theorem containsZ_any (l : List Int) (x : Int) (ao : Option Addr) (cap : Nat) (hl : l.length ≤ cap) (hc : cap ≤ 9223372036854775807) (B : Nat) (w : World) (ha : Hid (RowAt encZ 1 B w ao l)) :
    Calls Tryd.prog 75 #[.slice ao l.length cap, .int .i64 x] w fun e w' => e = .returned (.bool (l.contains x)) ∧ w = w' := by
  have H := indexZ_any l x ao cap hl hc B w ha
  have hcn : l.contains x = l.any fun y => decide (x = y) := by
    rw [List.contains_eq_any_beq]
    rfl
  obtain ⟨R, hR⟩ : ∃ R, l.contains x = R := ⟨_, rfl⟩
  rw [hR]
  rw [hR] at hcn
  clear hR
  obtain ⟨r, hr⟩ : ∃ r, fxI (fun y => decide (x = y)) l = r := ⟨_, rfl⟩
  have hfx := fxI_any (fun y => decide (x = y)) l
  rw [hr] at H hfx
  rw [← hcn] at hfx
  obtain ⟨n, hn⟩ : ∃ n, l.length = n := ⟨_, rfl⟩
  rw [hn] at H ⊢
  clear hn ha hr hcn
  replace H := Lib.hid H
  rcases hfx with ⟨rfl, rfl⟩ | ⟨rfl, h2⟩
  · go_enter Tryd.func75, Tryd.ntmps75
    go_wp2_with fail
    refine (H.out).mono ?_
    rintro e w1 ⟨rfl, rfl⟩
    go_wp2_with fail
    go_ret
    exact ⟨rfl, rfl⟩
  · go_enter Tryd.func75, Tryd.ntmps75
    go_wp2_with fail
    refine (H.out).mono ?_
    rintro e w1 ⟨rfl, rfl⟩
    go_wp2_with fail
    go_ret
    exact ⟨rfl, rfl⟩
set_option maxRecDepth 100000 in
set_option maxHeartbeats 1000000 in
theorem size_any (d : Int) (w : World) : Calls Tryd.prog 59 #[.int .i64 d] w fun e w' => e = .returned (.bool (sizD d)) ∧ Below w.heap.size w w' := by
  obtain ⟨R, hR⟩ : ∃ R, sizD d = R := ⟨_, rfl⟩
  rw [hR]
  replace hR := Lib.hid hR
  have HS := Lib.hid (sizes_any w)
  go_enter Tryd.func59, Tryd.ntmps59
  go_wp2_with fail
  refine (HS.out).mono ?_
  rintro e w1 ⟨⟨v, rfl, a, c, rfl, h2, h3, h4⟩, HB⟩
  have HC := Lib.hid (containsZ_any sizesL d a c h2 h3 _ w1 (Lib.hid h4))
  rw [show sizesL.contains d = R from hR.out] at HC
  clear HS h4
  go_wp2_with fail
  refine (HC.out).mono ?_
  rintro e w2 ⟨rfl, rfl⟩
  go_wp2_with fail
  go_ret
  exact ⟨rfl, HB⟩
set_option maxRecDepth 100000 in
set_option maxHeartbeats 1000000 in
theorem sized1_any (d r : Int) (F : FuncId) (c0 : Value) (w : World) (hF : ∀ args w, (callFunc F args).run Tryd.prog w = .ok (.enter F args) w) (HC : Hid (∀ W, Below w.heap.size w W → Calls Tryd.prog F #[c0] W fun e w' => e = .returned (.int .i64 r) ∧ Below W.heap.size W w')) :
    Calls Tryd.prog 63 #[.int .i64 d, .func (.func F) #[] #[c0]] w fun e w' => e = .returned (if sizD d then .tuple #[.int .i64 r, .int .i64 0] else .tuple #[.int .i64 0, .int .i64 1]) ∧ Below w.heap.size w w' := by
  have HS := Lib.hid (size_any d w)
  cases hs : sizD d
  · rw [hs] at HS
    clear hs HC
    go_enter Tryd.func63, Tryd.ntmps63
    go_wp2_with fail
    refine (HS.out).mono ?_
    rintro e w1 ⟨rfl, HB⟩
    go_wp2_with fail
    exact bodyPost_ret (v := .tuple #[.int .i64 0, .int .i64 1]) (by simp [results, Tryd.results63, go_sem]) rfl ⟨rfl, HB⟩
  · rw [hs] at HS
    clear hs
    go_enter Tryd.func63, Tryd.ntmps63
    go_wp2_with fail
    refine (HS.out).mono ?_
    rintro e w1 ⟨rfl, HB⟩
    go_wp2_with fail
    refine (HC.out _ HB).mono ?_
    rintro e w2 ⟨rfl, hb⟩
    replace HB := below_then HB hb
    clear hb
    go_wp2_with fail
    exact bodyPost_ret (v := .tuple #[.int .i64 r, .int .i64 0]) (by simp [results, Tryd.results63, go_sem]) rfl ⟨rfl, HB⟩
set_option maxRecDepth 100000 in
set_option maxHeartbeats 1000000 in
theorem sized2_any (d r : Int) (F : FuncId) (c0 c1 : Value) (w : World) (hF : ∀ args w, (callFunc F args).run Tryd.prog w = .ok (.enter F args) w) (HC : Hid (∀ W, Below w.heap.size w W → Calls Tryd.prog F #[c0, c1] W fun e w' => e = .returned (.int .i64 r) ∧ Below W.heap.size W w')) :
    Calls Tryd.prog 63 #[.int .i64 d, .func (.func F) #[] #[c0, c1]] w fun e w' => e = .returned (if sizD d then .tuple #[.int .i64 r, .int .i64 0] else .tuple #[.int .i64 0, .int .i64 1]) ∧ Below w.heap.size w w' := by
  have HS := Lib.hid (size_any d w)
  cases hs : sizD d
  · rw [hs] at HS
    clear hs HC
    go_enter Tryd.func63, Tryd.ntmps63
    go_wp2_with fail
    refine (HS.out).mono ?_
    rintro e w1 ⟨rfl, HB⟩
    go_wp2_with fail
    exact bodyPost_ret (v := .tuple #[.int .i64 0, .int .i64 1]) (by simp [results, Tryd.results63, go_sem]) rfl ⟨rfl, HB⟩
  · rw [hs] at HS
    clear hs
    go_enter Tryd.func63, Tryd.ntmps63
    go_wp2_with fail
    refine (HS.out).mono ?_
    rintro e w1 ⟨rfl, HB⟩
    go_wp2_with fail
    refine (HC.out _ HB).mono ?_
    rintro e w2 ⟨rfl, hb⟩
    replace HB := below_then HB hb
    clear hb
    go_wp2_with fail
    exact bodyPost_ret (v := .tuple #[.int .i64 r, .int .i64 0]) (by simp [results, Tryd.results63, go_sem]) rfl ⟨rfl, HB⟩
set_option maxRecDepth 100000 in
set_option maxHeartbeats 1000000 in
theorem bendF_any (d : Int) (hd : sizD d = true) (X : Nat) (w : World) (kx : At w X 3 #[.int .i64 d]) : Calls Tryd.prog 93 #[.pointer (some ⟨X, 0, none⟩)] w fun e w' => e = .returned (.int .i64 (bendR d)) ∧ Below w.heap.size w w' := by
  have x0 : w.cell? ⟨X, 0, none⟩ = some (.int .i64 d) := kx.c 0
  clear kx
  rcases sizD_or hd with rfl | rfl | rfl | rfl | rfl | rfl | rfl | rfl | rfl
  all_goals
    clear hd
    go_enter Tryd.func93, Tryd.ntmps93
    go_wp2_with fail
    go_ret
    exact ⟨rfl, Below.refl _ _⟩
set_option maxRecDepth 100000 in
set_option maxHeartbeats 1000000 in
theorem bend_any (d : Int) (hd : sizD d = true) (w : World) : Calls Tryd.prog 86 #[.int .i64 d] w fun e w' => e = .returned (.tuple #[.int .i64 (bendR d), .int .i64 0]) ∧ Below w.heap.size w w' := by
  obtain ⟨r, hr⟩ : ∃ r, bendR d = r := ⟨_, rfl⟩
  rw [hr]
  go_enter Tryd.func86, Tryd.ntmps86
  go_wp2_with fail
  generalize hWW : World.alloc _ _ = WW
  have kx : At WW w.heap.size 3 #[.int .i64 d] := by rw [← hWW]; exact At.new' rfl
  have HB : Below w.heap.size w WW := by rw [← hWW]; exact below_al (Below.refl _ _) _
  clear hWW
  have H := Lib.hid (sized1_any d r 93 (.pointer (some ⟨w.heap.size, 0, none⟩)) WW (fun args w => by simp [go_sem]) (Lib.hid fun W hW => (bendF_any d hd _ W (kx.bel hW)).mono fun e w' h => by rw [← hr]; exact h))
  rw [hd, if_pos rfl] at H
  have x0 : WW.cell? ⟨w.heap.size, 0, none⟩ = some (.int .i64 d) := kx.c 0
  clear kx hd hr
  go_wp2_with fail
  refine (H.out).mono ?_
  rintro e w2 ⟨rfl, hb⟩
  replace HB := below_then HB hb
  clear hb H x0
  go_wp2_with fail
  exact bodyPost_ret (v := .tuple #[.int .i64 r, .int .i64 0]) (by simp [results, Tryd.results86, go_sem]) rfl ⟨rfl, HB⟩
set_option maxRecDepth 100000 in
set_option maxHeartbeats 1000000 in
theorem massF_any (d n : Int) (hd : sizD d = true) (hn : 0 ≤ n ∧ n ≤ 1048576) (X Y : Nat) (w : World) (kx : At w X 3 #[.int .i64 d]) (ky : At w Y 3 #[.int .i64 n]) : Calls Tryd.prog 64 #[.pointer (some ⟨X, 0, none⟩), .pointer (some ⟨Y, 0, none⟩)] w fun e w' => e = .returned (.int .i64 (massOf d n)) ∧ Below w.heap.size w w' := by
  have x0 : w.cell? ⟨X, 0, none⟩ = some (.int .i64 d) := kx.c 0
  have y0 : w.cell? ⟨Y, 0, none⟩ = some (.int .i64 n) := ky.c 0
  clear kx ky
  obtain ⟨A, hA⟩ : ∃ A, 6165 * d = A := ⟨_, rfl⟩
  obtain ⟨C, hC⟩ : ∃ C, A * d = C := ⟨_, rfl⟩
  have bA : 0 ≤ A ∧ A ≤ 1000000 := by rcases sizD_or hd with rfl | rfl | rfl | rfl | rfl | rfl | rfl | rfl | rfl <;> omega
  have bC : 0 ≤ C ∧ C ≤ 10000000 := by rcases sizD_or hd with rfl | rfl | rfl | rfl | rfl | rfl | rfl | rfl | rfl <;> (subst hA; omega)
  obtain ⟨D, hD⟩ : ∃ D, C * n = D := ⟨_, rfl⟩
  have bD : 0 ≤ D ∧ D ≤ 10485760000000 := by
    rw [← hD]
    refine ⟨Int.mul_nonneg bC.1 hn.1, ?_⟩
    have h1 : C * n ≤ 10000000 * n := Int.mul_le_mul_of_nonneg_right bC.2 hn.1
    omega
  obtain ⟨E, hE⟩ : ∃ E, D + 500000 = E := ⟨_, rfl⟩
  obtain ⟨R, hR⟩ : ∃ R, massOf d n = R := ⟨_, rfl⟩
  have hR2 : E.tdiv 1000000 = R := by
    rw [← hR, ← hE, ← hD, ← hC, ← hA, Int.tdiv_eq_ediv_of_nonneg (by rw [hA, hC, hD]; omega)]
    rfl
  have w1 : IntKind.i64.wrap (6165 * d) = A := by rw [hA, IntWalk.i64_in _ (by omega)]
  have w2 : IntKind.i64.wrap (A * d) = C := by rw [hC, IntWalk.i64_in _ (by omega)]
  have w3 : IntKind.i64.wrap (C * n) = D := by rw [hD, IntWalk.i64_in _ (by omega)]
  have w4 : IntKind.i64.wrap (D + 500000) = E := by rw [hE, IntWalk.i64_in _ (by omega)]
  have w5 : IntKind.i64.wrap R = R := IntWalk.i64_in _ (by
    rw [← hR2, Int.tdiv_eq_ediv_of_nonneg (by omega)]
    omega)
  rw [hR]
  clear hR hE hD hC hA bA bC bD hn hd
  go_enter Tryd.func64, Tryd.ntmps64
  go_wp2_with fail
  go_ret
  exact ⟨rfl, Below.refl _ _⟩
set_option maxRecDepth 100000 in
set_option maxHeartbeats 1000000 in
theorem mass_any (d n : Int) (hd : sizD d = true) (hn : 0 ≤ n ∧ n ≤ 1048576) (w : World) : Calls Tryd.prog 40 #[.int .i64 d, .int .i64 n] w fun e w' => e = .returned (.tuple #[.int .i64 (massOf d n), .int .i64 0]) ∧ Below w.heap.size w w' := by
  obtain ⟨r, hr⟩ : ∃ r, massOf d n = r := ⟨_, rfl⟩
  rw [hr]
  go_enter Tryd.func40, Tryd.ntmps40
  go_wp2_with fail
  generalize hWW : World.alloc (World.alloc w _) _ = WW
  have kx : At WW w.heap.size 3 #[.int .i64 d] := by rw [← hWW]; repeat (first | (with_reducible apply At.new'; (focus (simp; done))) | with_reducible apply At.al | with_reducible apply At.drw | with_reducible apply At.dr)
  have ky : At WW (w.heap.size + 1) 3 #[.int .i64 n] := by rw [← hWW]; repeat (first | (with_reducible apply At.new'; (focus (simp; done))) | with_reducible apply At.al | with_reducible apply At.drw | with_reducible apply At.dr)
  have HB : Below w.heap.size w WW := by rw [← hWW]; exact below_al (below_al (Below.refl _ _) _) _
  clear hWW
  have HS := Lib.hid (size_any d WW)
  rw [hd] at HS
  have x0 : WW.cell? ⟨w.heap.size, 0, none⟩ = some (.int .i64 d) := kx.c 0
  go_wp2_with fail
  refine (HS.out).mono ?_
  rintro e w1 ⟨rfl, hb⟩
  replace HB := below_then HB hb
  replace kx := kx.bel hb
  replace ky := ky.bel hb
  clear hb x0 HS
  have H := Lib.hid (sized2_any d r 64 (.pointer (some ⟨w.heap.size, 0, none⟩)) (.pointer (some ⟨w.heap.size + 1, 0, none⟩)) w1 (fun args w => by simp [go_sem]) (Lib.hid fun W hW => (massF_any d n hd hn _ _ W (kx.bel hW) (ky.bel hW)).mono fun e w' h => by rw [← hr]; exact h))
  rw [hd, if_pos rfl] at H
  have x0 : w1.cell? ⟨w.heap.size, 0, none⟩ = some (.int .i64 d) := kx.c 0
  have y0 : w1.cell? ⟨w.heap.size + 1, 0, none⟩ = some (.int .i64 n) := ky.c 0
  have g1 : decide (n < 0) = false := decide_eq_false (by omega)
  have g2 : decide (1048576 < n) = false := decide_eq_false (by omega)
  clear kx ky hd hn hr
  go_wp2_with fail
  refine (H.out).mono ?_
  rintro e w2 ⟨rfl, hb⟩
  replace HB := below_then HB hb
  clear hb H x0 y0
  go_wp2_with fail
  exact bodyPost_ret (v := .tuple #[.int .i64 r, .int .i64 0]) (by simp [results, Tryd.results40, go_sem]) rfl ⟨rfl, HB⟩
end Go.Proofs.YtjlkbmaigcgnbaaDoor
