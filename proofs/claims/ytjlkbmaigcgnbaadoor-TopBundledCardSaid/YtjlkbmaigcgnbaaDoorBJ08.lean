/- DERIVED: THE SHELF's CONTRACTS AT THIS DUMP, IN PLAIN WORDS (tools/lay-plain.mjs out of 'TrydShelf.lean', which tools/lay-shelf.mjs wrote): THE SAME DECLARATIONS UNDER THE SAME NAMES: 'import', 'namespace', 'open', 'def', 'theorem' AND NOTHING ELSE: no command of the shelf's: FOR A HAND-IN. Each laying: the table of numbers ('.._ren') and one theorem, a field a fact of the dump's own or the kernel's comparison; each contract: ONE APPLICATION. site: Ready, Account, Open, Entries; the reference's Ready, Account, find. the reference: Account. clones and comparisons of rows of entries. clones and comparisons of rows of names. site: Open, Entries. site: the law's 'same': a site, and the reference's, answer the same. -/
import Derived.Shelf.Strconv.Itoa0
import Derived.Shelf.Strconv.Itoa1
import Derived.Shelf.LaysM
import Derived.Shelf.Strconv.Itoa2
import Derived.Shelf.Strconv.Itoa3
import Derived.Shelf.Slices.Turned
import Derived.Ground.Names2Prog
import Derived.Shelf.Slices.Clone
import Derived.Shelf.Slices.Delete
import Derived.Shelf.Slices.Cells
import Derived.Shelf.Slices.Empties
import Derived.Test.YtjlkbmaigcgnbaaDoorProg
import Derived.Test.YtjlkbmaigcgnbaaDoorBJ07
import Derived.Ground.SlgnProg
import Derived.Test.YtjlkbmaigcgnbaaDoorBJ01
import Derived.Shelf.SlicesE.Clone
import Derived.Shelf.Lay
import Derived.Deep.RegionHeld3
namespace Go.Proofs
open Go.Shelf
def Tryd.laysM171_ren : Go.Shelf.Ren := ⟨fun | 171 => 23 | 243 => 41 | 246 => 65 | 283 => 78 | 284 => 79 | 285 => 80 | 286 => 81 | 129 => 88 | 317 => 87 | 318 => 89 | 319 => 90 | 320 => 91 | 337 => 94 | 338 => 95 | n => n, fun | 3 => 3 | 9 => 9 | 2 => 2 | 4 => 4 | 171 => 126 | 0 => 0 | 53 => 127 | 37 => 130 | 5 => 5 | 173 => 131 | 212 => 138 | 51 => 139 | 20 => 20 | 213 => 140 | 46 => 141 | 232 => 144 | 233 => 145 | n => n, fun | 17 => 0 | 18 => 1 | 19 => 2 | n => n⟩
theorem Tryd.laysM171 : Go.Proofs.LaysM.n171 Tryd.prog Tryd.laysM171_ren := {
  mixed := by kernel_rfl
  f129 := Tryd.func88.trans (congrArg some (by kernel_rfl))
  f171 := Tryd.func23.trans (congrArg some (by kernel_rfl))
  f243 := Tryd.func41.trans (congrArg some (by kernel_rfl))
  f246 := Tryd.func65.trans (congrArg some (by kernel_rfl))
  f283 := Tryd.func78.trans (congrArg some (by kernel_rfl))
  f284 := Tryd.func79.trans (congrArg some (by kernel_rfl))
  f285 := Tryd.func80.trans (congrArg some (by kernel_rfl))
  f286 := Tryd.func81.trans (congrArg some (by kernel_rfl))
  f317 := Tryd.func87.trans (congrArg some (by kernel_rfl))
  f318 := Tryd.func89.trans (congrArg some (by kernel_rfl))
  f319 := Tryd.func90.trans (congrArg some (by kernel_rfl))
  f320 := Tryd.func91.trans (congrArg some (by kernel_rfl))
  f337 := Tryd.func94.trans (congrArg some (by kernel_rfl))
  f338 := Tryd.func95.trans (congrArg some (by kernel_rfl))
  t0 := Tryd.underlying0
  a0 := Tryd.isAgg0
  z0 := Tryd.sizeOf0
  v0 := Tryd.zeroValue0
  t2 := Tryd.underlying2
  a2 := Tryd.isAgg2
  z2 := Tryd.sizeOf2
  v2 := Tryd.zeroValue2
  t3 := Tryd.underlying3
  a3 := Tryd.isAgg3
  z3 := Tryd.sizeOf3
  v3 := Tryd.zeroValue3
  t4 := Tryd.underlying4
  a4 := Tryd.isAgg4
  z4 := Tryd.sizeOf4
  v4 := Tryd.zeroValue4
  t5 := Tryd.underlying5
  a5 := Tryd.isAgg5
  z5 := Tryd.sizeOf5
  v5 := Tryd.zeroValue5
  t9 := Tryd.underlying9
  a9 := Tryd.isAgg9
  z9 := Tryd.sizeOf9
  v9 := Tryd.zeroValue9
  t20 := Tryd.underlying20
  a20 := Tryd.isAgg20
  z20 := Tryd.sizeOf20
  v20 := Tryd.zeroValue20
  t37 := Tryd.underlying130
  a37 := Tryd.isAgg130
  z37 := Tryd.sizeOf130
  v37 := Tryd.zeroValue130
  t46 := Tryd.underlying141
  a46 := Tryd.isAgg141
  z46 := Tryd.sizeOf141
  v46 := Tryd.zeroValue141
  t51 := Tryd.underlying139
  a51 := Tryd.isAgg139
  z51 := Tryd.sizeOf139
  v51 := Tryd.zeroValue139
  t53 := Tryd.underlying127
  a53 := Tryd.isAgg127
  z53 := Tryd.sizeOf127
  v53 := Tryd.zeroValue127
  t171 := Tryd.underlying126
  a171 := Tryd.isAgg126
  z171 := Tryd.sizeOf126
  v171 := Tryd.zeroValue126
  t173 := Tryd.underlying131
  a173 := Tryd.isAgg131
  z173 := Tryd.sizeOf131
  v173 := Tryd.zeroValue131
  t212 := Tryd.underlying138
  a212 := Tryd.isAgg138
  z212 := Tryd.sizeOf138
  v212 := Tryd.zeroValue138
  t213 := Tryd.underlying140
  a213 := Tryd.isAgg140
  z213 := Tryd.sizeOf140
  t232 := Tryd.underlying144
  a232 := Tryd.isAgg144
  z232 := Tryd.sizeOf144
  v232 := Tryd.zeroValue144
  t233 := Tryd.underlying145
  a233 := Tryd.isAgg145
  z233 := Tryd.sizeOf145
  v233 := Tryd.zeroValue145
  g17 := by kernel_rfl
  g18 := by kernel_rfl
  g19 := by kernel_rfl
  i0 := by kernel_rfl
  i2 := by kernel_rfl
  i3 := by kernel_rfl
  i4 := by kernel_rfl
  i5 := by kernel_rfl
  i9 := by kernel_rfl
  i20 := by kernel_rfl
  i37 := by kernel_rfl
  i46 := by kernel_rfl
  i51 := by kernel_rfl
  i53 := by kernel_rfl
  i171 := by kernel_rfl
  i173 := by kernel_rfl
  i212 := by kernel_rfl
  i232 := by kernel_rfl
  i233 := by kernel_rfl
  m17 := by kernel_rfl
  m18 := by kernel_rfl
  m19 := by kernel_rfl }
open Go.RowKit Go.Sort Go.Lib in
theorem Tryd.strconv_Itoa (n : Int) (h0 : -9223372036854775808 ≤ n) (h1 : n ≤ 9223372036854775807) (w : World) (htab : Lib.TabIs Tryd.prog w "internal/strconv.uint64pow10" .u64 Lib.pow10Tab) :
    Calls Tryd.prog 23 #[.int .i64 n] w fun e w' => e = .returned (.string ⟨(Lib.itoa n).toArray⟩) ∧ ∃ k os, w' = grow (w.drewN k) os := Any.strconv_Itoa Tryd.laysM171 n h0 h1 w htab
def Tryd.lays109_ren : Go.Shelf.Ren := ⟨fun | 109 => 71 | n => n, fun | 31 => 81 | 9 => 9 | 3 => 3 | 0 => 0 | 4 => 4 | n => n, fun | n => n⟩
theorem Tryd.lays109 : Go.Proofs.Lays.n109 Tryd.prog Tryd.lays109_ren := {
  mixed := by kernel_rfl
  f109 := Tryd.func71.trans (congrArg some (by kernel_rfl))
  t0 := Tryd.underlying0
  a0 := Tryd.isAgg0
  z0 := Tryd.sizeOf0
  v0 := Tryd.zeroValue0
  t3 := Tryd.underlying3
  a3 := Tryd.isAgg3
  z3 := Tryd.sizeOf3
  v3 := Tryd.zeroValue3
  t4 := Tryd.underlying4
  a4 := Tryd.isAgg4
  z4 := Tryd.sizeOf4
  v4 := Tryd.zeroValue4
  t9 := Tryd.underlying9
  a9 := Tryd.isAgg9
  z9 := Tryd.sizeOf9
  v9 := Tryd.zeroValue9
  t31 := Tryd.underlying81
  a31 := Tryd.isAgg81
  z31 := Tryd.sizeOf81
  v31 := Tryd.zeroValue81 }
open Go.Lib in
theorem Tryd.slices_Index_string (b off n c : Nat) (zs : List ByteArray) (x : ByteArray) (w : World) (hz : n ≤ zs.length) (hbig : n ≤ 9223372036854775807) (hc : ∀ j, j < zs.length → w.cell? ⟨b, off + j, none⟩ = some (.string (zs.getD j ByteArray.empty))) :
    Calls Tryd.prog 71 #[.slice (some ⟨b, off, none⟩) n c, .string x] w fun e w' => e = .returned (.int .i64 (Lib.idxOfS (zs.take n) x)) ∧ w' = w := Any.slices_Index_string Tryd.lays109 b off n c zs x w hz hbig hc
open Go.Lib in
theorem Tryd.slices_Index_string_empty (a : Option Addr) (c : Nat) (x : ByteArray) (w : World) :
    Calls Tryd.prog 71 #[.slice a 0 c, .string x] w fun e w' => e = .returned (.int .i64 (Lib.idxOfS [] x)) ∧ w' = w := Any.slices_Index_string_empty Tryd.lays109 a c x w
def Tryd.lays110_ren : Go.Shelf.Ren := ⟨fun | 110 => 70 | 109 => 71 | n => n, fun | 31 => 81 | 9 => 9 | 4 => 4 | 3 => 3 | 0 => 0 | n => n, fun | n => n⟩
theorem Tryd.lays110 : Go.Proofs.Lays.n110 Tryd.prog Tryd.lays110_ren := {
  mixed := by kernel_rfl
  f109 := Tryd.func71.trans (congrArg some (by kernel_rfl))
  f110 := Tryd.func70.trans (congrArg some (by kernel_rfl))
  t0 := Tryd.underlying0
  a0 := Tryd.isAgg0
  z0 := Tryd.sizeOf0
  v0 := Tryd.zeroValue0
  t3 := Tryd.underlying3
  a3 := Tryd.isAgg3
  z3 := Tryd.sizeOf3
  v3 := Tryd.zeroValue3
  t4 := Tryd.underlying4
  a4 := Tryd.isAgg4
  z4 := Tryd.sizeOf4
  v4 := Tryd.zeroValue4
  t9 := Tryd.underlying9
  a9 := Tryd.isAgg9
  z9 := Tryd.sizeOf9
  v9 := Tryd.zeroValue9
  t31 := Tryd.underlying81
  a31 := Tryd.isAgg81
  z31 := Tryd.sizeOf81
  v31 := Tryd.zeroValue81 }
open Go.Lib in
theorem Tryd.slices_Contains_string (b off n c : Nat) (zs : List ByteArray) (x : ByteArray) (w : World) (hz : n ≤ zs.length) (hbig : n ≤ 9223372036854775807) (hc : ∀ j, j < zs.length → w.cell? ⟨b, off + j, none⟩ = some (.string (zs.getD j ByteArray.empty))) :
    Calls Tryd.prog 70 #[.slice (some ⟨b, off, none⟩) n c, .string x] w fun e w' => e = .returned (.bool (Lib.containsS (zs.take n) x)) ∧ w' = w := Any.slices_Contains_string Tryd.lays110 b off n c zs x w hz hbig hc
open Go.Lib in
theorem Tryd.slices_Contains_string_empty (a : Option Addr) (c : Nat) (x : ByteArray) (w : World) :
    Calls Tryd.prog 70 #[.slice a 0 c, .string x] w fun e w' => e = .returned (.bool false) ∧ w' = w := Any.slices_Contains_string_empty Tryd.lays110 a c x w
def Tryd.laysNm215_ren : Go.Shelf.Ren := ⟨fun | 15 => 49 | n => n, fun | 22 => 42 | 3 => 3 | 4 => 4 | n => n, fun | n => n⟩
theorem Tryd.laysNm215 : Go.Proofs.Lays2.n15 Tryd.prog Tryd.laysNm215_ren := {
  mixed := by kernel_rfl
  f15 := Tryd.func49.trans (congrArg some (by kernel_rfl))
  t3 := Tryd.underlying3
  a3 := Tryd.isAgg3
  z3 := Tryd.sizeOf3
  v3 := Tryd.zeroValue3
  t4 := Tryd.underlying4
  a4 := Tryd.isAgg4
  z4 := Tryd.sizeOf4
  v4 := Tryd.zeroValue4
  t22 := Tryd.underlying42
  a22 := Tryd.isAgg42
  z22 := Tryd.sizeOf42
  v22 := Tryd.zeroValue42
  i3 := by kernel_rfl }
open Go.RowKit Go.Lib in
theorem Tryd.slices_Clone_int (b off n c : Nat) (zs : List Int) (w : World) (hz : n ≤ zs.length) (hbig : n * 8 ≤ 140737488355328) (hc : ∀ j, j < zs.length → w.cell? ⟨b, off + j, none⟩ = some (.int .i64 (zs.getD j 0))) :
    Calls Tryd.prog 49 #[.slice (some ⟨b, off, none⟩) n c] w fun e w' => ∃ v', e = .returned v' ∧ w'.ownsRow w.heap.size 3 1 v' n ((zs.take n).map (Value.int .i64)) ∧ v' ≠ .slice none 0 0 ∧ Below w.heap.size w w' := Any.slices_Clone_int Tryd.laysNm215 b off n c zs w hz hbig hc
open Go.RowKit Go.Lib in
theorem Tryd.slices_Clone_int_nil (n c : Nat) (w : World) :
    Calls Tryd.prog 49 #[.slice none n c] w fun e w' => e = .returned (.slice none 0 0) ∧ w' = w := Any.slices_Clone_int_nil Tryd.laysNm215 n c w
def Tryd.laysNm224_ren : Go.Shelf.Ren := ⟨fun | 24 => 72 | n => n, fun | 24 => 81 | 9 => 9 | 3 => 3 | 4 => 4 | 0 => 0 | n => n, fun | n => n⟩
theorem Tryd.laysNm224 : Go.Proofs.Lays2.n24 Tryd.prog Tryd.laysNm224_ren := {
  mixed := by kernel_rfl
  f24 := Tryd.func72.trans (congrArg some (by kernel_rfl))
  t0 := Tryd.underlying0
  a0 := Tryd.isAgg0
  z0 := Tryd.sizeOf0
  v0 := Tryd.zeroValue0
  t3 := Tryd.underlying3
  a3 := Tryd.isAgg3
  z3 := Tryd.sizeOf3
  v3 := Tryd.zeroValue3
  t4 := Tryd.underlying4
  a4 := Tryd.isAgg4
  z4 := Tryd.sizeOf4
  v4 := Tryd.zeroValue4
  t9 := Tryd.underlying9
  a9 := Tryd.isAgg9
  z9 := Tryd.sizeOf9
  v9 := Tryd.zeroValue9
  t24 := Tryd.underlying81
  a24 := Tryd.isAgg81
  z24 := Tryd.sizeOf81
  v24 := Tryd.zeroValue81
  i9 := by kernel_rfl }
open Go.RowKit Go.Lib Go.Sort in
theorem Tryd.slices_Delete_string (blk off cap i j : Nat) (zs : List (List UInt8)) (w : World) (hH : Holds encStr w blk off zs.toArray) (hcap : zs.length ≤ cap) (hm : cap ≤ 9223372036854775807) (hij : i ≤ j) (hj : j ≤ zs.length) :
    Calls Tryd.prog 72 #[.slice (some ⟨blk, off, none⟩) zs.length cap, .int .i64 i, .int .i64 j] w fun e w' => e = .returned (.slice (some ⟨blk, off, none⟩) (zs.length - (j - i)) cap) ∧ ∃ q, w' = putRow encStr (Sort.ahead w q) blk off (zs.take i ++ zs.drop j ++ List.replicate (j - i) []).toArray := Any.slices_Delete_string Tryd.laysNm224 blk off cap i j zs w hH hcap hm hij hj
end Go.Proofs
set_option linter.unusedVariables false
namespace Go.Proofs.YtjlkbmaigcgnbaaDoor
open Go.ChangeShapes Go.WideShapes Go.ChangeAt Go.RowKit
set_option maxRecDepth 100000 in
set_option maxHeartbeats 1000000 in
theorem ready_any (s : St) (hok : s.ok) (g : Nat) (p : SV) (w : World) (hs : SiteW w g s p) :
    Calls Tryd.prog 73 #[.pointer (some ⟨g, 0, none⟩)] w fun e w' => e = .returned (.bool (readyS s)) ∧ Below w.heap.size w w' := by
  have HM := Lib.hid (missing_any s hok g p w hs)
  obtain ⟨b, hb⟩ : ∃ b, readyS s = b := ⟨_, rfl⟩
  rw [hb]
  unfold readyS at hb
  rw [isEmpty_len, isEmpty_len] at hb
  obtain ⟨ao, cap, hvt, hl, hc, -, -⟩ := hs.opn.view encS_len
  obtain ⟨m, hm⟩ : ∃ m, (missS s.tags s.at_).length = m := ⟨_, rfl⟩
  obtain ⟨n, hn⟩ : ∃ n, s.open_.length = n := ⟨_, rfl⟩
  rw [hm, hn] at hb
  rw [hm] at HM
  rw [hn] at hvt hl
  clear hn
  replace hs := Lib.hid hs
  replace hb := Lib.hid hb
  clear hok
  go_enter Tryd.func73, Tryd.ntmps73
  go_wp2_with fail
  refine (HM.out).mono ?_
  rintro e w1 ⟨⟨v, rfl, ho⟩, HB⟩
  obtain ⟨a, c, rfl⟩ := own_slice ho.out
  have z3 : w1.cell? ⟨g, 3, none⟩ = some (.slice ao n cap) := by
    have := (hs.out.bel HB).own.c 3
    rw [hvt] at this
    exact this
  clear HM
  by_cases m0 : m = 0
  · by_cases n0 : n = 0
    · have hE : Hid (b = true) := Lib.hid (by rw [← hb.out, decide_eq_true m0, decide_eq_true n0]; rfl)
      subst m0
      subst n0
      go_wp2_with fail
      go_ret
      exact ⟨by rw [hE.out]; rfl, HB⟩
    · have hE : Hid (b = false) := Lib.hid (by rw [← hb.out, decide_eq_false n0]; simp)
      have n1 : ((n : Int) == 0) = false := by simp; omega
      subst m0
      go_wp2_with fail
      go_ret
      exact ⟨by rw [hE.out]; rfl, HB⟩
  · have hE : Hid (b = false) := Lib.hid (by rw [← hb.out, decide_eq_false m0]; simp)
    have m1 : ((m : Int) == 0) = false := by simp; omega
    go_wp2_with fail
    go_ret
    exact ⟨by rw [hE.out]; rfl, HB⟩
structure Cnt (l : List Nat) (a b c : Nat) : Prop where
  c0 : l.count 0 = a
  c1 : l.count 1 = b
  c2 : l.count 2 = c
theorem Cnt.step {l : List Nat} {k a b c : Nat} (h : Cnt (l.take k) a b c) (hk : k < l.length) : Cnt (l.take (k + 1)) (a + if l[k] = 0 then 1 else 0) (b + if l[k] = 1 then 1 else 0) (c + if l[k] = 2 then 1 else 0) := by
  obtain ⟨h0, h1, h2⟩ := h
  have e : ∀ x, (l.take (k + 1)).count x = (l.take k).count x + if l[k] = x then 1 else 0 := fun x => by
    rw [List.take_succ_eq_append_getElem hk, List.count_append, List.count_singleton]
    by_cases q : l[k] = x
    · rw [if_pos q, if_pos (by simpa using q)]
    · rw [if_neg q, if_neg (by simpa using q)]
  exact ⟨by rw [e, h0], by rw [e, h1], by rw [e, h2]⟩
set_option maxRecDepth 100000 in
set_option maxHeartbeats 2000000 in
theorem account_any (s : St) (hok : s.ok) (g : Nat) (p : SV) (w : World) (hs : SiteW w g s p) :
    Calls Tryd.prog 16 #[.pointer (some ⟨g, 0, none⟩)] w fun e w' => e = .returned (.tuple #[.int .i64 (s.at_.count 0 : Nat), .int .i64 (s.at_.count 1 : Nat), .int .i64 (s.at_.count 2 : Nat)]) ∧ Below w.heap.size w w' := by
  obtain ⟨aw, cw, hvw, hl2, hc2, -, -⟩ := hs.wher.view encN_len
  obtain ⟨n, hn⟩ : ∃ n, s.at_.length = n := ⟨_, rfl⟩
  have hn1 : n ≤ 1000 := by have := hok.tagsN; have := hok.len; omega
  rw [hn] at hl2 hvw
  obtain ⟨R0, hR0⟩ : ∃ R, s.at_.count 0 = R := ⟨_, rfl⟩
  obtain ⟨R1, hR1⟩ : ∃ R, s.at_.count 1 = R := ⟨_, rfl⟩
  obtain ⟨R2, hR2⟩ : ∃ R, s.at_.count 2 = R := ⟨_, rfl⟩
  rw [hR0, hR1, hR2]
  have hR := Lib.hid (Cnt.mk hR0 hR1 hR2)
  clear hR0 hR1 hR2
  have hle := Lib.hid hok.le
  have hs0 := Lib.hid hs
  clear hok
  have z1 : w.cell? ⟨g, 1, none⟩ = some (.slice aw n cw) := by
    have := hs.own.c 1
    rw [hvw] at this
    exact this
  have Lg : g < w.heap.size := hs.own.lt
  replace hn := Lib.hid hn
  replace hvw := Lib.hid hvw
  clear hs
  go_enter Tryd.func16, Tryd.ntmps16
  go_wp2_with fail
  go_loopg [15] n (fun g1 i wr => ∃ (k x0 x1 x2 : Nat), k ≤ n ∧ i = .int .i64 (k : Int) ∧ Hid (g1 = n - k ∧ Cnt (s.at_.take k) x0 x1 x2) ∧ x0 + x1 + x2 = k ∧ Below w.heap.size w wr ∧ At wr w.heap.size 85 #[.int .i64 (x0 : Int), .int .i64 (x1 : Int), .int .i64 (x2 : Int)] ∧ Hid (SiteW wr g s p))
  case atStart => exact ⟨0, 0, 0, 0, Nat.zero_le _, rfl, Lib.hid ⟨rfl, ⟨rfl, rfl, rfl⟩⟩, rfl, (by repeat (first | with_reducible assumption | with_reducible exact Below.refl _ _ | with_reducible refine below_al ?_ _ | with_reducible refine below_drew ?_ | with_reducible refine below_drewN ?_ _ | with_reducible refine below_set ?_ (by dsimp only; omega) _)), At.new' rfl, Lib.hid (hs0.out.bel (below_al (Below.refl _ _) _))⟩
  case round =>
    clear z1
    obtain ⟨k, x0, x1, x2, hk, rfl, hr, hsum, HB, kz, hs⟩ := hrel
    have z1 : wr.cell? ⟨g, 1, none⟩ = some (.slice aw n cw) := by
      have := hs.out.own.c 1
      rw [hvw.out] at this
      exact this
    have Lz := kz.lt
    have q0 := kz.f 0
    have q1 := kz.f 1
    have q2 := kz.f 2
    have Lg' : g < wr.heap.size := hs.out.own.lt
    obtain ⟨kz0, kz1, kz2⟩ := kz.three
    by_cases hlt : k < n
    · have hka : Hid (k < s.at_.length) := Lib.hid (by rw [hn.out]; exact hlt)
      obtain ⟨b2, off2, rfl, f0, hb2⟩ := ((show Row wr _ 1 encN (.slice aw n cw) s.at_ from hvw.out ▸ hs.out.wher).at encN_len).one (f := fun n : Nat => Value.int .i64 (n : Int)) k hka.out
      have hy2 := hle.out _ (List.getElem_mem hka.out)
      obtain ⟨y, hy⟩ : ∃ y, s.at_[k]'hka.out = y := ⟨_, rfl⟩
      rw [hy] at f0 hy2
      replace hy := Lib.hid hy
      have hy3 : y = 0 ∨ y = 1 ∨ y = 2 := by omega
      clear hy2
      rcases hy3 with rfl | rfl | rfl
      · have w0 : IntKind.i64.wrap ((x0 : Int) + 1) = (x0 : Int) + 1 := IntWalk.i64_in _ (by omega)
        go_wp2_with fail
        generalize hWW : World.setCell _ _ _ = WW
        have kz' : At WW w.heap.size 85 #[.int .i64 ((x0 : Int) + 1), .int .i64 ((x1 : Int)), .int .i64 ((x2 : Int))] := by rw [← hWW]; exact At.put (i := 0) kz _
        have HB' : Below w.heap.size w WW := by rw [← hWW]; exact below_set HB (Nat.le_refl _) _
        clear hWW HB kz q0 q1 q2
        go_wp2_with fail
        go_roundg (n - (k + 1))
        case measure => have := hr.out.1; omega
        case rel => exact ⟨k + 1, (x0 + 1), x1, x2, by omega, by go_num, Lib.hid ⟨rfl, by have := hr.out.2.step hka.out; rw [hy.out] at this; simpa using this⟩, by omega, HB', by simpa using kz', Lib.hid (hs0.out.bel HB')⟩
      · have w0 : IntKind.i64.wrap ((x1 : Int) + 1) = (x1 : Int) + 1 := IntWalk.i64_in _ (by omega)
        go_wp2_with fail
        generalize hWW : World.setCell _ _ _ = WW
        have kz' : At WW w.heap.size 85 #[.int .i64 ((x0 : Int)), .int .i64 ((x1 : Int) + 1), .int .i64 ((x2 : Int))] := by rw [← hWW]; exact At.put (i := 1) kz _
        have HB' : Below w.heap.size w WW := by rw [← hWW]; exact below_set HB (Nat.le_refl _) _
        clear hWW HB kz q0 q1 q2
        go_wp2_with fail
        go_roundg (n - (k + 1))
        case measure => have := hr.out.1; omega
        case rel => exact ⟨k + 1, x0, (x1 + 1), x2, by omega, by go_num, Lib.hid ⟨rfl, by have := hr.out.2.step hka.out; rw [hy.out] at this; simpa using this⟩, by omega, HB', by simpa using kz', Lib.hid (hs0.out.bel HB')⟩
      · have w0 : IntKind.i64.wrap ((x2 : Int) + 1) = (x2 : Int) + 1 := IntWalk.i64_in _ (by omega)
        go_wp2_with fail
        generalize hWW : World.setCell _ _ _ = WW
        have kz' : At WW w.heap.size 85 #[.int .i64 ((x0 : Int)), .int .i64 ((x1 : Int)), .int .i64 ((x2 : Int) + 1)] := by rw [← hWW]; exact At.put (i := 2) kz _
        have HB' : Below w.heap.size w WW := by rw [← hWW]; exact below_set HB (Nat.le_refl _) _
        clear hWW HB kz q0 q1 q2
        go_wp2_with fail
        go_roundg (n - (k + 1))
        case measure => have := hr.out.1; omega
        case rel => exact ⟨k + 1, x0, x1, (x2 + 1), by omega, by go_num, Lib.hid ⟨rfl, by have := hr.out.2.step hka.out; rw [hy.out] at this; simpa using this⟩, by omega, HB', by simpa using kz', Lib.hid (hs0.out.bel HB')⟩
    · have hE : Hid (x0 = R0 ∧ x1 = R1 ∧ x2 = R2) := Lib.hid (by
        have h0 := hr.out.2
        rw [List.take_of_length_le (by have := hn.out; omega)] at h0
        exact ⟨h0.c0.symm.trans hR.out.c0, h0.c1.symm.trans hR.out.c1, h0.c2.symm.trans hR.out.c2⟩)
      have K0 := cell_regrown kz0
      have K1 := cell_regrown kz1
      have K2 := cell_regrown kz2
      go_upto_region 8 with fail
      refine wp_region_quiet_below (by kernel_rfl) (by kernel_rfl) ?_
      repeat (go_big_quiet_step (fail))
      refine wpQuiet_nil ?_
      intro v hb'
      have hb := below_of_regrown hb'
      replace HB := below_then HB hb
      clear hb' hb
      go_wp2_with fail
      exact bodyPost_ret (v := .tuple #[.int .i64 (x0 : Int), .int .i64 (x1 : Int), .int .i64 (x2 : Int)]) (by simp [results, Tryd.results16, go_sem]) rfl ⟨by rw [← hE.out.1, ← hE.out.2.1, ← hE.out.2.2], HB⟩
end Go.Proofs.YtjlkbmaigcgnbaaDoor
set_option linter.unusedVariables false
namespace Go.Proofs.YtjlkbmaigcgnbaaDoor
open Go.ChangeShapes Go.WideShapes Go.ChangeAt Go.RowKit
end Go.Proofs.YtjlkbmaigcgnbaaDoor
set_option linter.unusedVariables false
namespace Go.Proofs.YtjlkbmaigcgnbaaDoor
open Go.ChangeShapes Go.WideShapes Go.ChangeAt Go.RowKit Go.Shelf
end Go.Proofs.YtjlkbmaigcgnbaaDoor
set_option linter.unusedVariables false
namespace Go.Proofs.YtjlkbmaigcgnbaaDoor
open Go.ChangeShapes Go.WideShapes Go.ChangeAt Go.RowKit Go.Shelf
theorem getD_str {l : List ByteArray} {b off : Nat} {B : Nat} {w : World} (h : RowAt encS 1 B w (some ⟨b, off, none⟩) l) : ∀ j, j < l.length → w.cell? ⟨b, off + j, none⟩ = some (.string (l.getD j ByteArray.empty)) := by
  intro j hj
  obtain ⟨b', off', e, hc, _⟩ := h.one (f := fun s => .string s) j hj
  simp only [Option.some.injEq, Addr.mk.injEq, and_true] at e
  obtain ⟨rfl, rfl⟩ := e
  rw [hc]
  simp [List.getD, hj]
end Go.Proofs.YtjlkbmaigcgnbaaDoor
set_option linter.unusedVariables false
namespace Go.Proofs.YtjlkbmaigcgnbaaDoor
open Go.ChangeShapes Go.WideShapes Go.ChangeAt Go.RowKit Go.Shelf
end Go.Proofs.YtjlkbmaigcgnbaaDoor
set_option linter.unusedVariables false
namespace Go.Proofs.YtjlkbmaigcgnbaaDoor
open Go.ChangeShapes Go.WideShapes Go.ChangeAt Go.RowKit
end Go.Proofs.YtjlkbmaigcgnbaaDoor
