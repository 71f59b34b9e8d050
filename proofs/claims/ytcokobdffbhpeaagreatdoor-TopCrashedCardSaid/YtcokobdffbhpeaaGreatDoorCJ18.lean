/- journal: slices of bytes; sums, and where the first line ends (the reference's). journal: slices of bytes as values; slices of them; conversions; sums by value. Bytes set; a byte changed; calls in worlds that have grown. bundle.Make: its closure, and whether a bar is too heavy. lorry: what is given; a sort by masses. -/
import Derived.Test.YtcokobdffbhpeaaGreatDoorCJ17
import Derived.Laws.IdiomStrings
import Derived.Laws.BytesArg
import Derived.Test.YtcokobdffbhpeaaGreatDoorCJ05
import Derived.Laws.BitsAllLaws
import Derived.Test.YtcokobdffbhpeaaGreatDoorCJ16
set_option linter.unusedVariables false
namespace Go.Proofs.YtcokobdffbhpeaaGreatDoor
open Go.ChangeShapes Go.WideShapes Go.ChangeAt Go.RowKit
def encU (c : UInt8) : List Value := [.int .u8 (c.toNat : Int)]
theorem encU_len (c : UInt8) : (encU c).length = 1 := rfl
theorem RowAt.byte {B : Nat} {w : World} {ao : Option Addr} {l : List UInt8} (h : RowAt encU 1 B w ao l) (k : Nat) (hk : k < l.length) : ∃ b off, ao = some ⟨b, off, none⟩ ∧ w.cell? ⟨b, off + k, none⟩ = some (.int .u8 (l[k].toNat : Int)) ∧ b < B := h.one (f := fun c : UInt8 => .int .u8 (c.toNat : Int)) k hk
theorem u8_le (c : UInt8) : c.toNat ≤ 255 := by have := c.toNat_lt; omega
theorem sum_step (t c : Nat) (ht : t < 4294967296) (hc : c ≤ 255) : ∃ u : Nat, u = (31 * t + c + 1) % 4294967296 ∧ IntKind.i64.wrap (31 * (t : Int)) = 31 * (t : Int) ∧ IntKind.i64.wrap (c : Int) = (c : Int) ∧ IntKind.i64.wrap (31 * (t : Int) + (c : Int)) = 31 * (t : Int) + (c : Int) ∧ IntKind.i64.wrap (31 * (t : Int) + (c : Int) + 1) = 31 * (t : Int) + (c : Int) + 1 ∧ Int.tmod (31 * (t : Int) + (c : Int) + 1) 4294967296 = (u : Int) ∧ (31 * (t : Int) + (c : Int) + 1) % 4294967296 = (u : Int) ∧ IntKind.i64.wrap (u : Int) = (u : Int) := by
  refine ⟨_, rfl, IntWalk.i64_in _ (by omega), IntWalk.i64_in _ (by omega), IntWalk.i64_in _ (by omega), IntWalk.i64_in _ (by omega), ?_, by omega, IntWalk.i64_in _ (by omega)⟩
  rw [Int.tmod_eq_emod_of_nonneg (by omega)]
  omega
set_option maxRecDepth 100000 in
set_option maxHeartbeats 1000000 in
theorem further_any (l : List UInt8) (ao : Option Addr) (cap : Nat) (hl : l.length ≤ cap) (hc : cap ≤ 9223372036854775807) (s : Nat) (hs : s < 4294967296) (B : Nat) (w : World) (ha : Hid (RowAt encU 1 B w ao l)) :
    Calls Tryz.prog 42 #[.int .i64 (s : Int), .slice ao l.length cap] w fun e w' => e = .returned (.int .i64 (sumF s l : Nat)) ∧ w = w' := by
  obtain ⟨R, hR⟩ : ∃ R, sumF s l = R := ⟨_, rfl⟩
  rw [hR]
  replace hR := Lib.hid hR
  obtain ⟨n, hn⟩ : ∃ n, l.length = n := ⟨_, rfl⟩
  rw [hn] at hl ⊢
  replace hn := Lib.hid hn
  replace hs := Lib.hid hs
  go_enter Tryz.func42, Tryz.ntmps42
  go_wp2_with fail
  go_loopg [9, 0] n (fun g i s' wr => ∃ (k t : Nat), k ≤ n ∧ i = .int .i64 (k : Int) ∧ s' = .int .i64 (t : Int) ∧ Hid (t < 4294967296) ∧ Hid (g = n - k ∧ sumF s (l.take k) = t) ∧ w = wr)
  case atStart => exact ⟨0, s, Nat.zero_le _, rfl, rfl, hs, Lib.hid ⟨rfl, rfl⟩, rfl⟩
  case round =>
    obtain ⟨k, t, hk, rfl, rfl, ht, hr, rfl⟩ := hrel
    by_cases hlt : k < n
    · have hkl : Hid (k < l.length) := Lib.hid (by rw [hn.out]; exact hlt)
      obtain ⟨b, off, rfl, c0, hb⟩ := ha.out.byte k hkl.out
      obtain ⟨c, hc0⟩ : ∃ c, l[k]'hkl.out = c := ⟨_, rfl⟩
      rw [hc0] at c0
      obtain ⟨u, hu, q1, q2, q3, q4, q5, q6, q7⟩ := sum_step t c.toNat ht.out (u8_le c)
      have hS : Hid (sumF s (l.take (k + 1)) = u) := Lib.hid (by
        rw [List.take_succ_eq_append_getElem hkl.out, sumF_app, hr.out.2, hc0, sumF_cons, sumF_nil, ← hu])
      have hu2 : Hid (u < 4294967296) := Lib.hid (by rw [hu]; exact Nat.mod_lt _ (by decide))
      generalize c.toNat = cn at *
      clear hc0 hb hu
      go_wp2_with fail
      go_roundg (n - (k + 1))
      case measure => have := hr.out.1; omega
      case rel => exact ⟨k + 1, u, by omega, by go_num, rfl, hu2, Lib.hid ⟨rfl, hS.out⟩, rfl⟩
    · have hE : Hid (R = t) := Lib.hid (by
        have := hr.out.2
        rw [List.take_of_length_le (by have := hn.out; omega), hR.out] at this
        exact this)
      go_wp2_with fail
      go_ret
      exact ⟨by rw [hE.out]; rfl, rfl⟩
set_option maxRecDepth 100000 in
theorem sum_any (l : List UInt8) (ao : Option Addr) (cap : Nat) (hl : l.length ≤ cap) (hc : cap ≤ 9223372036854775807) (B : Nat) (w : World) (ha : Hid (RowAt encU 1 B w ao l)) :
    Calls Tryz.prog 43 #[.slice ao l.length cap] w fun e w' => e = .returned (.int .i64 (sumB l : Nat)) ∧ w = w' := by
  have H := Lib.hid (further_any l ao cap hl hc 7 (by decide) B w ha)
  obtain ⟨R, hR⟩ : ∃ R, sumF 7 l = R := ⟨_, rfl⟩
  rw [hR] at H
  show Calls _ _ _ _ fun e w' => e = .returned (.int .i64 (sumF 7 l : Nat)) ∧ w = w'
  rw [hR]
  clear hR
  go_enter Tryz.func43, Tryz.ntmps43
  go_wp2_with fail
  refine H.out.mono ?_
  rintro e w1 ⟨rfl, rfl⟩
  go_wp2_with fail
  go_ret
  exact ⟨rfl, rfl⟩
end Go.Proofs.YtcokobdffbhpeaaGreatDoor
set_option linter.unusedVariables false
namespace Go.Proofs.YtcokobdffbhpeaaGreatDoor
open Go.ChangeShapes Go.WideShapes Go.ChangeAt Go.RowKit
def IsB (l : List UInt8) (v : Value) (w : World) : Prop := ∃ a c, v = .slice a l.length c ∧ l.length ≤ c ∧ c ≤ 9223372036854775807 ∧ RowAt encU 1 w.heap.size w a l ∧ ((a = none ∧ c = 0) ∨ ∃ b off, a = some ⟨b, off, none⟩)
theorem IsB.up {l : List UInt8} {v : Value} {w w' : World} (hb : Below w.heap.size w w') (h : IsB l v w) : IsB l v w' := by
  obtain ⟨a, c, h1, h2, h3, h4, h5⟩ := h
  exact ⟨a, c, h1, h2, h3, (h4.bel (Nat.le_refl _) hb).mono hb.size, h5⟩
theorem IsB.nil (w : World) : IsB [] (.slice none 0 0) w := ⟨none, 0, rfl, Nat.le_refl _, by omega, RowAt.nil _ _, .inl ⟨rfl, rfl⟩⟩
theorem IsB.shape {l : List UInt8} {v : Value} {w : World} (h : IsB l v w) : ∃ a n c, v = .slice a n c ∧ n = l.length ∧ n ≤ c ∧ c ≤ 9223372036854775807 := by
  obtain ⟨a, c, h1, h2, h3, _⟩ := h
  exact ⟨a, l.length, c, h1, rfl, h2, h3⟩
theorem row_isB {l : List UInt8} {v : Value} {w : World} {base : Nat} (h : w.ownsRow base 5 1 v l.length (l.flatMap encU)) : IsB l v w := by
  have h2 : Row w 5 1 encU v l := ⟨h.1, h.2.imp id fun ⟨g, cap, cur, h1, _, h3⟩ => ⟨g, cap, cur, h1, Nat.zero_le _, h3⟩⟩
  obtain ⟨a, c, h3, h4, h5, h6, h7⟩ := h2.view encU_len
  exact ⟨a, c, h3, h4, h5, h6, h7.elim (fun q => .inl ⟨q.1, q.2.2⟩) fun ⟨g, q, _⟩ => .inr ⟨g, 0, q⟩⟩
theorem IsB.sub {l : List UInt8} {a : Option Addr} {n c : Nat} {w : World} (h : IsB l (.slice a n c) w) (i j : Nat) (hij : i ≤ j) (hj : j ≤ n) :
    IsB ((l.drop i).take (j - i)) (sliced a i j c 1) w := by
  obtain ⟨a', c', e, h2, h3, h4, h5⟩ := h
  injection e with e1 e2 e3
  subst e1 e2 e3
  have hlen : ((l.drop i).take (j - i)).length = j - i := by rw [List.length_take, List.length_drop]; omega
  unfold sliced
  refine ⟨_, _, by rw [hlen], by rw [hlen]; omega, by omega, ?_, ?_⟩
  · intro k hk
    rw [hlen] at hk
    have hik : i + k < l.length := by omega
    obtain ⟨b, off, e, hlt, hc⟩ := h4 (i + k) hik
    rw [if_neg (by omega), e]
    refine ⟨b, off + i, by simp [Addr.add], hlt, fun q u hu => ?_⟩
    have := hc q u (by rw [← hu]; simp)
    rw [Nat.mul_one] at this ⊢
    rw [← this]
    congr 2
    omega
  · rcases h5 with ⟨rfl, rfl⟩ | ⟨b, off, rfl⟩
    · exact .inl ⟨by simp, by simp⟩
    · right
      split
      · exact ⟨b, off, rfl⟩
      · refine ⟨b, off + i, ?_⟩
        simp [Addr.add]
theorem elemB : Tryz.prog.underlying 32 = some (.slice (Tryz.prog.elem 32)) := by kernel_rfl
theorem sizeB (w : World) : (sizeOf (Tryz.prog.elem 32)).run Tryz.prog w = .ok 1 w := by
  have : Tryz.prog.elem 32 = 5 := by kernel_rfl
  rw [this]
  exact Tryz.sizeOf5 w
theorem IsB.lh {l : List UInt8} {a : Option Addr} {n c : Nat} {w : World} (h : IsB l (.slice a n c) w) (i j : Nat) (hij : i ≤ j) (hj : j ≤ n) :
    ∃ A, (∀ W, (Instr.slice 32 (.slice a n c) (some (.int .i64 (i : Int))) (some (.int .i64 (j : Int))) none).run Tryz.prog W = .ok (.slice A (j - i) (c - i)) W) ∧ IsB ((l.drop i).take (j - i)) (.slice A (j - i) (c - i)) w := by
  have hn : n ≤ c := by obtain ⟨a', n', c', e, h1, h2, h3⟩ := h.shape; injection e with e1 e2 e3; omega
  refine ⟨_, fun W => ?_, h.sub i j hij hj⟩
  rw [run_slice_lh W 32 a n c elemB .i64 .i64 i j (by omega) (by omega) (by omega), sizeB]
  simp only [Result.andThen_ok, Int.toNat_natCast]
  rfl
theorem IsB.lo {l : List UInt8} {a : Option Addr} {n c : Nat} {w : World} (h : IsB l (.slice a n c) w) (i : Nat) (hi : i ≤ n) :
    ∃ A, (∀ W, (Instr.slice 32 (.slice a n c) (some (.int .i64 (i : Int))) none none).run Tryz.prog W = .ok (.slice A (n - i) (c - i)) W) ∧ IsB (l.drop i) (.slice A (n - i) (c - i)) w := by
  have hl : l.length = n := by obtain ⟨a', n', c', e, h1, h2, h3⟩ := h.shape; injection e with e1 e2 e3; omega
  have h2 := h.sub i n hi (Nat.le_refl _)
  rw [List.take_of_length_le (by rw [List.length_drop]; omega)] at h2
  refine ⟨_, fun W => ?_, h2⟩
  rw [run_slice_l W 32 a n c elemB .i64 i (by omega) (by omega), sizeB]
  simp only [Result.andThen_ok, Int.toNat_natCast]
  rfl
theorem IsB.hi {l : List UInt8} {a : Option Addr} {n c : Nat} {w : World} (h : IsB l (.slice a n c) w) (j : Nat) (hj : j ≤ n) :
    ∃ A, (∀ W, (Instr.slice 32 (.slice a n c) none (some (.int .i64 (j : Int))) none).run Tryz.prog W = .ok (.slice A j c) W) ∧ IsB (l.take j) (.slice A j c) w := by
  have hn : n ≤ c := by obtain ⟨a', n', c', e, h1, h2, h3⟩ := h.shape; injection e with e1 e2 e3; omega
  have h2 := h.sub 0 j (Nat.zero_le _) hj
  refine ⟨_, fun W => ?_, by simpa [sliced] using h2⟩
  rw [run_slice_h W 32 a n c elemB .i64 j (by omega) (by omega), sizeB]
  simp only [Result.andThen_ok, Int.toNat_natCast]
  simp [sliced]
theorem conv_bytes (w : World) (s : ByteArray) (hs : s.size ≤ 1000000) : ∃ c o, (convert 9 32 (.string s)).run Tryz.prog w = .ok (.slice (some ⟨w.heap.size, 0, none⟩) s.size c) (w.drew.alloc o) ∧ IsB (by_ s) (.slice (some ⟨w.heap.size, 0, none⟩) s.size c) (w.drew.alloc o) := by
  have hr := run_bytes_of_string (P := Tryz.prog) w 9 32 5 s Tryz.underlying9 Tryz.underlying32 Tryz.underlying5
  have hc1 := grownCap_ge w s.size 0 5
  have hc2 : grownCap w s.size 0 5 ≤ 2 ^ 63 - 1 := grownCap_le_maxLen w s.size 0 5 (by unfold maxLen; omega)
  generalize grownCap w s.size 0 5 = cap at *
  refine ⟨cap, _, hr, _, _, rfl, hc1, by omega, ?_, .inr ⟨_, _, rfl⟩⟩
  intro k hk
  refine ⟨w.heap.size, 0, rfl, by show w.heap.size < (w.heap.push _).size; simp, fun j u hu => ?_⟩
  have hj : j = 0 := by have := (List.getElem?_eq_some_iff.1 hu).1; rw [encU_len] at this; omega
  subst hj
  rw [cell_of_row _ w.heap.size (0 + k * 1 + 0) (bytesRow s cap) 5 _ (heap_alloc_new w.drew _), ← hu]
  have hk2 : k < s.data.size := by simpa using hk
  simp [bytesRow, encU]
  rw [Array.getElem?_append_left (by simpa using hk2)]
  simp
  exact ⟨s.data[k], by simp, rfl⟩
set_option maxRecDepth 100000 in
theorem IsB.str {l : List UInt8} {a : Option Addr} {n c : Nat} {w : World} (h : IsB l (.slice a n c) w) : (convert 32 9 (.slice a n c)).run Tryz.prog w = .ok (.string ⟨l.toArray⟩) w := by
  obtain ⟨a', c', e, h2, h3, h4, h5⟩ := h
  injection e with e1 e2 e3
  subst e1 e2 e3
  rcases h5 with ⟨rfl, rfl⟩ | ⟨b, off, rfl⟩
  · obtain rfl := List.length_eq_zero_iff.1 (Nat.le_zero.1 h2)
    clear h3
    exact run_convert_bytes_nil (P := Tryz.prog) w 32 5 Tryz.underlying32 Tryz.underlying5 _ _ 9 Tryz.underlying9
  · refine run_convert_bytes_back w 32 9 5 ⟨b, off, none⟩ c l Tryz.underlying32 Tryz.underlying5 Tryz.underlying9 fun j hj => ?_
    obtain ⟨b', off', e, hc, _⟩ := h4.byte j hj
    simp only [Option.some.injEq, Addr.mk.injEq, and_true] at e
    obtain ⟨rfl, rfl⟩ := e
    rw [← hc]
    cases j <;> simp [Addr.add]
theorem further_v (l : List UInt8) (v : Value) (s : Nat) (hs : s < 4294967296) (w : World) (h : IsB l v w) :
    Calls Tryz.prog 42 #[.int .i64 (s : Int), v] w fun e w' => e = .returned (.int .i64 (sumF s l : Nat)) ∧ w = w' := by
  obtain ⟨a, c, rfl, h2, h3, h4, _⟩ := h
  exact further_any l a c h2 h3 s hs _ w (Lib.hid h4)
theorem sum_v (l : List UInt8) (v : Value) (w : World) (h : IsB l v w) :
    Calls Tryz.prog 43 #[v] w fun e w' => e = .returned (.int .i64 (sumB l : Nat)) ∧ w = w' := by
  obtain ⟨a, c, rfl, h2, h3, h4, _⟩ := h
  exact sum_any l a c h2 h3 _ w (Lib.hid h4)
end Go.Proofs.YtcokobdffbhpeaaGreatDoor
set_option linter.unusedVariables false
namespace Go.Proofs.YtcokobdffbhpeaaGreatDoor
open Go.ChangeShapes Go.WideShapes Go.ChangeAt Go.RowKit
theorem IsB.set {l : List UInt8} {g cap n : Nat} {w : World} (h : IsB l (.slice (some ⟨g, 0, none⟩) n cap) w) {k : Nat} (hk : k < l.length) (c : UInt8) : IsB (l.set k c) (.slice (some ⟨g, 0, none⟩) n cap) (w.setCell ⟨g, k, none⟩ (.int .u8 (c.toNat : Int))) := by
  obtain ⟨a, c', e, h2, h3, h4, h5⟩ := h
  injection e with e1 e2 e3
  subst e1 e2 e3
  refine ⟨_, cap, by rw [List.length_set], by rw [List.length_set]; exact h2, h3, fun i hi => ?_, .inr ⟨g, 0, rfl⟩⟩
  have hi' : i < l.length := by rw [List.length_set] at hi; exact hi
  obtain ⟨b, off, e, hlt, hc⟩ := h4 i hi'
  simp only [Option.some.injEq, Addr.mk.injEq, and_true] at e
  obtain ⟨rfl, rfl⟩ := e
  refine ⟨g, 0, rfl, by rw [World.size_setCell]; exact hlt, fun j u hu => ?_⟩
  have hj : j = 0 := by have := (List.getElem?_eq_some_iff.1 hu).1; rw [encU_len] at this; omega
  subst hj
  have h0 := hc 0 _ rfl
  have e0 : (0 + i * 1 + 0) = i := by omega
  rw [e0] at h0 ⊢
  by_cases hik : i = k
  · subst hik
    rw [World.cell?_setCell_same _ _ _ h0, ← hu]
    simp [encU]
  · rw [World.cell?_setCell_other _ _ _ _ (fun e => hik (by injection e with _ e2 _; exact e2.symm)), h0, ← hu]
    simp [encU, Ne.symm hik]
theorem own_block {w : World} {base n : Nat} {a : Option Addr} {c : Nat} {xs : List Value} (h : w.ownsRow base 5 1 (.slice a n c) n xs) (hn : 1 ≤ n) : ∃ g, a = some ⟨g, 0, none⟩ ∧ base ≤ g := by
  obtain ⟨_, ⟨_, h2⟩ | ⟨g, cap, cur, h1, h2, _⟩⟩ := h
  · omega
  · injection h1 with e1 _ _
    exact ⟨g, e1, h2⟩
theorem xor_byte (a : UInt8) (y : Nat) (hy : y < 256) (h0 : y ≠ 0) : ∃ c : UInt8, bits .xor .u8 (a.toNat : Int) (y : Int) = (c.toNat : Int) ∧ a ≠ c := by
  refine ⟨a ^^^ UInt8.ofNat y, ?_, fun e => ?_⟩
  · rw [u8_xor_nat _ _ (by have := a.toNat_lt; omega) hy, UInt8.toNat_xor]
    congr 2
    simp
    omega
  · have h2 := congrArg UInt8.toNat e
    rw [UInt8.toNat_xor] at h2
    have h3 : (UInt8.ofNat y).toNat = y := by simp; omega
    rw [h3] at h2
    apply h0
    have h4 : a.toNat ^^^ a.toNat = a.toNat ^^^ (a.toNat ^^^ y) := by rw [← h2]
    rw [Nat.xor_self, ← Nat.xor_assoc, Nat.xor_self, Nat.zero_xor] at h4
    exact h4.symm
theorem regrown_call_at {P : Program} {f : FuncId} {args : Array Value} {w : World} {d : Nat} {os : Array Obj} {v : Value}
    (h : ∀ W : World, Below w.heap.size w W → Calls P f args W fun e w' => e = .returned v ∧ Below W.heap.size W w') : Calls P f args (Go.Sort.grow (redrawn w d) os) fun e w'' => e = .returned v ∧ ∃ p : Regrown, w'' = Go.Sort.grow (redrawn w p.d) p.os :=
  Calls.regrown_of (h _ (below_regrown _ _ _))
end Go.Proofs.YtcokobdffbhpeaaGreatDoor
set_option linter.unusedVariables false
namespace Go.Proofs.YtcokobdffbhpeaaGreatDoor
open Go.ChangeShapes Go.WideShapes Go.ChangeAt Go.RowKit
set_option maxRecDepth 100000 in
set_option maxHeartbeats 1000000 in
theorem makeF_any (x : Br × Value) (most : Int) (X : Nat) (w : World) (hm : x.1.mark.size ≤ 1000000) (hv : IsI x.1.dims x.2 w) (hok : barV x.1 = true) (kx : At w X 3 #[.int .i64 most]) : Calls Tryz.prog 32 #[.agg (encQ x).toArray, .pointer (some ⟨X, 0, none⟩)] w fun e w' => e = .returned (.bool (decide (most < massB x.1))) ∧ Below w.heap.size w w' := by
  have HO := Lib.hid (fun W (hW : Below w.heap.size w W) => one_any x.1 x.2 W hm (hv.up hW) hok)
  obtain ⟨⟨mk, sz, ct, c, l⟩, v⟩ := x
  unfold encQ
  unfold barC at HO
  dsimp only at *
  obtain ⟨a, cc, rfl, -, -, -⟩ := hv
  generalize massB ⟨mk, sz, ct, c, l⟩ = M at *
  generalize l.length = n0 at *
  clear hok
  go_enter Tryz.func32, Tryz.ntmps32
  go_upto_region 1 with fail
  generalize hWW : World.alloc w _ = WW
  have kb : At WW w.heap.size 51 #[.string mk, .int .i64 sz, .int .i64 ct, .int .i64 c, .slice a n0 cc] := by rw [← hWW]; exact At.new' rfl
  have HB : Below w.heap.size w WW := by rw [← hWW]; exact below_al (Below.refl _ _) _
  replace kx := kx.bel HB
  clear hWW
  have HO2 := Lib.hid (fun W (hW : Below WW.heap.size WW W) => HO.out W (below_then HB hW))
  have K0 := cell_regrown (show WW.cell? ⟨w.heap.size, 0, none⟩ = some (.string mk) from kb.c 0)
  have K1 := cell_regrown (show WW.cell? ⟨w.heap.size, 1, none⟩ = some (.int .i64 sz) from kb.c 1)
  have K2 := cell_regrown (show WW.cell? ⟨w.heap.size, 2, none⟩ = some (.int .i64 ct) from kb.c 2)
  have K3 := cell_regrown (show WW.cell? ⟨w.heap.size, 3, none⟩ = some (.int .i64 c) from kb.c 3)
  have K4 := cell_regrown (show WW.cell? ⟨w.heap.size, 4, none⟩ = some (.slice a n0 cc) from kb.c 4)
  have K5 := cell_regrown (show WW.cell? ⟨X, 0, none⟩ = some (.int .i64 most) from kx.c 0)
  clear kb kx HO
  refine wp_region_quiet_below (by kernel_rfl) (by kernel_rfl) ?_
  repeat (go_big_quiet_step ((first | with_reducible exact regrown_call_at HO2.out)))
  refine wpQuiet_nil ?_
  intro v1 hb'
  have hb := below_of_regrown hb'
  clear hb' K0 K1 K2 K3 K4 K5 HO2
  go_wp2_with fail
  go_ret
  exact ⟨rfl, below_then HB hb⟩
def IsU (l : List Bun) (v : Value) (w : World) : Prop := ∃ a c, v = .slice a l.length c ∧ l.length ≤ c ∧ c ≤ 9223372036854775807 ∧ RowAt encB 4 w.heap.size w a l
theorem IsU.up {l : List Bun} {v : Value} {w w' : World} (h : IsU l v w) (hb : Below w.heap.size w w') : IsU l v w' := by
  obtain ⟨a, c, h1, h2, h3, h4⟩ := h
  exact ⟨a, c, h1, h2, h3, (h4.bel (Nat.le_refl _) hb).mono hb.size⟩
theorem row_isU {l : List Bun} {v : Value} {w : World} {base : Nat} (h : w.ownsRow base 57 4 v l.length (l.flatMap encB)) : IsU l v w := by
  have h2 : Row w 57 4 encB v l := ⟨h.1, h.2.imp id fun ⟨g, cap, cur, h1, _, h3⟩ => ⟨g, cap, cur, h1, Nat.zero_le _, h3⟩⟩
  obtain ⟨a, c, h3, h4, h5, h6, _⟩ := h2.view encB_len
  exact ⟨a, c, h3, h4, h5, h6⟩
theorem isU_nil (w : World) : IsU [] (.slice none 0 0) w := ⟨none, 0, rfl, Nat.le_refl _, by omega, RowAt.nil _ _⟩
theorem infoBnd : (Tryz.prog.info? 57).map (fun i => (i.zero, i.size, i.bytes)) = some (some (.agg #[.string ⟨#[]⟩, .string ⟨#[]⟩, .int .i64 0, .int .i64 0]), 4, 48) := by kernel_rfl
end Go.Proofs.YtcokobdffbhpeaaGreatDoor
set_option linter.unusedVariables false
namespace Go.Proofs.YtcokobdffbhpeaaGreatDoor
open Go.ChangeShapes Go.WideShapes Go.ChangeAt Go.RowKit
set_option maxRecDepth 100000 in
set_option maxHeartbeats 1000000 in
theorem within_any (m : Int) (w : World) : Calls Tryz.prog 37 #[.int .i64 m] w fun e w' => e = .returned (.bool (decide (1 ≤ m) && decide (m ≤ 1099511627776))) ∧ w = w' := by
  by_cases h1 : 1 ≤ m
  · have e1 : decide (1 ≤ m) = true := decide_eq_true h1
    rw [e1, Bool.true_and]
    clear h1
    generalize hq : decide (m ≤ 1099511627776) = q
    go_enter Tryz.func37, Tryz.ntmps37
    go_wp2_with fail
    go_ret
    exact ⟨rfl, rfl⟩
  · have e1 : decide (1 ≤ m) = false := decide_eq_false h1
    rw [e1, Bool.false_and]
    clear h1
    go_enter Tryz.func37, Tryz.ntmps37
    go_wp2_with fail
    go_ret
    exact ⟨rfl, rfl⟩
set_option maxRecDepth 100000 in
set_option maxHeartbeats 1000000 in
theorem givenF_any (x : Bun) (most : Int) (X : Nat) (w : World) (kx : At w X 3 #[.int .i64 most]) : Calls Tryz.prog 39 #[.agg (encB x).toArray, .pointer (some ⟨X, 0, none⟩)] w fun e w' => e = .returned (.bool (decide (most < x.mass))) ∧ Below w.heap.size w w' := by
  obtain ⟨tg, mk, ct, ms⟩ := x
  unfold encB
  dsimp only
  have x0 : w.cell? ⟨X, 0, none⟩ = some (.int .i64 most) := kx.c 0
  have hX : X < w.heap.size := kx.lt
  generalize hR : decide (most < ms) = R
  go_enter Tryz.func39, Tryz.ntmps39
  go_wp2_with fail
  go_ret
  exact ⟨rfl, below_al (Below.refl _ _) _⟩
def givE (l : List Bun) (most : Int) : Int := if bunV l = false then 1 else if (decide (1 ≤ most) && decide (most ≤ 1099511627776)) = false then 2 else if l.any (fun b => decide (most < b.mass)) = true then 20 else 0
set_option maxRecDepth 100000 in
set_option maxHeartbeats 1000000 in
theorem lgiven_any (l : List Bun) (ao : Option Addr) (cap : Nat) (most : Int) (hl : l.length ≤ cap) (hc : cap ≤ 9223372036854775807) (hs : Hid (∀ x ∈ l, x.tag.size ≤ 60 ∧ x.mark.size ≤ 60)) (w : World) (ha : Hid (RowAt encB 4 w.heap.size w ao l)) :
    Calls Tryz.prog 19 #[.slice ao l.length cap, .int .i64 most] w fun e w' => e = .returned (.int .i64 (givE l most)) ∧ Below w.heap.size w w' := by
  obtain ⟨R, hR⟩ : ∃ R, givE l most = R := ⟨_, rfl⟩
  rw [hR]
  unfold givE at hR
  have up : ∀ W, Below w.heap.size w W → RowAt encB 4 W.heap.size W ao l := fun W hW => (ha.out.bel (Nat.le_refl _) hW).mono hW.size
  have HV := Lib.hid (fun (W : World) (hW : Below w.heap.size w W) => bvalid_any l ao cap hl hc hs W (Lib.hid (up W hW)))
  have HW := Lib.hid (fun w => within_any most w)
  have HC := Lib.hid (fun (W : World) (X : Nat) (hW : Below w.heap.size w W) (kx : At W X 3 #[.int .i64 most]) => contBun encB encB_len l ao cap hl hc _ W (Nat.le_refl _) (Lib.hid (up W hW)) 39 (.pointer (some ⟨X, 0, none⟩)) (fun args w => by simp [go_sem]) (fun b => decide (most < b.mass)) (Lib.hid fun x hx W' hW' => givenF_any x most X W' (kx.bel hW')))
  generalize l.length = n at *
  generalize bunV l = bv at *
  generalize (decide (1 ≤ most) && decide (most ≤ 1099511627776)) = wi at *
  generalize (l.any fun b => decide (most < b.mass)) = ov at *
  clear up
  go_enter Tryz.func19, Tryz.ntmps19
  go_wp2_with fail
  generalize hWW : World.alloc w _ = WW
  have kx : At WW w.heap.size 3 #[.int .i64 most] := by rw [← hWW]; exact At.new' rfl
  have HB : Below w.heap.size w WW := by rw [← hWW]; exact below_al (Below.refl _ _) _
  clear hWW
  refine (HV.out _ HB).mono ?_
  rintro e w1 ⟨rfl, hb⟩
  replace HB := below_then HB hb
  replace kx := kx.bel hb
  clear hb HV
  rcases bv with _ | _
  · rw [if_pos rfl] at hR
    subst hR
    clear HC HW
    go_wp2_with fail
    go_ret
    exact ⟨rfl, HB⟩
  rw [if_neg (by decide)] at hR
  have x0 : w1.cell? ⟨w.heap.size, 0, none⟩ = some (.int .i64 most) := kx.c 0
  go_wp2_with fail
  refine (HW.out _).mono ?_
  rintro e w2 ⟨rfl, rfl⟩
  clear HW x0
  rcases wi with _ | _
  · rw [if_pos rfl] at hR
    subst hR
    clear HC
    go_wp2_with fail
    go_ret
    exact ⟨rfl, HB⟩
  rw [if_neg (by decide)] at hR
  have HCk := Lib.hid (HC.out w1 w.heap.size HB kx)
  clear HC
  go_wp2_with fail
  refine (HCk.out).mono ?_
  rintro e w2 ⟨rfl, hb⟩
  replace HB := below_then HB hb
  clear hb HCk
  rcases ov with _ | _
  · rw [if_neg (by decide)] at hR
    subst hR
    go_wp2_with fail
    go_ret
    exact ⟨rfl, HB⟩
  · rw [if_pos rfl] at hR
    subst hR
    go_wp2_with fail
    go_ret
    exact ⟨rfl, HB⟩
set_option maxRecDepth 100000 in
set_option maxHeartbeats 1000000 in
theorem cmpF_any (l : List Bun) (a : Option Addr) (c : Nat) (i k X : Nat) (hi : i < l.length) (hk : k < l.length) (B : Nat) (w : World) (hc : l.length ≤ c) (hm : Hid (∀ j, 0 ≤ massN l j ∧ massN l j ≤ 1099511627776)) (kx : w.cell? ⟨X, 0, none⟩ = some (.slice a l.length c)) (hr : Hid (RowAt encB 4 B w a l)) :
    Calls Tryz.prog 41 #[.int .i64 (i : Int), .int .i64 (k : Int), .pointer (some ⟨X, 0, none⟩)] w fun e w' => e = .returned (.int .i64 (massN l k - massN l i)) ∧ Below w.heap.size w w' := by
  obtain ⟨b, off, rfl, -, -, -, c3, -⟩ := hr.out.bun i hi
  obtain ⟨b', off', e, -, -, -, d3, -⟩ := hr.out.bun k hk
  simp only [Option.some.injEq, Addr.mk.injEq, and_true] at e
  obtain ⟨rfl, rfl⟩ := e
  have hmi : massN l i = l[i].mass := by unfold massN; rw [List.getElem?_eq_getElem hi]
  have hmk : massN l k = l[k].mass := by unfold massN; rw [List.getElem?_eq_getElem hk]
  have bi := hm.out i
  have bk := hm.out k
  rw [hmi] at bi ⊢
  rw [hmk] at bk ⊢
  generalize l[i].mass = x at *
  generalize l[k].mass = y at *
  generalize l.length = n at *
  obtain ⟨R, hR⟩ : ∃ R, y - x = R := ⟨_, rfl⟩
  have u1 : IntKind.i64.wrap (y - x) = R := by rw [hR, IntWalk.i64_in _ (by omega)]
  rw [hR]
  clear hR hmi hmk bi bk
  go_enter Tryz.func41, Tryz.ntmps41
  go_upto_region 1 with fail
  have K0 := cell_regrown kx
  have K1 := cell_regrown c3
  have K2 := cell_regrown d3
  refine wp_region_quiet_below (by kernel_rfl) (by kernel_rfl) ?_
  repeat (go_big_quiet_step (fail))
  refine wpQuiet_nil ?_
  intro v1 hb'
  have hb := below_of_regrown hb'
  clear hb' K0 K1 K2
  go_wp2_with fail
  go_ret
  exact ⟨rfl, hb⟩
end Go.Proofs.YtcokobdffbhpeaaGreatDoor
