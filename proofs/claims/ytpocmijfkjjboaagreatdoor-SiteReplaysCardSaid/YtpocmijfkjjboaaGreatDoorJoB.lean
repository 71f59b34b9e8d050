/- journal: slices of bytes as values; slices of them; conversions; sums by value. -/
import Derived.Test.YtpocmijfkjjboaaGreatDoorJoA
import Derived.Laws.IdiomStrings
import Derived.Laws.BytesArg
set_option linter.unusedVariables false
namespace Go.Proofs.YtpocmijfkjjboaaGreatDoor
open Go.ChangeShapes Go.WideShapes Go.ChangeAt Go.RowKit

/-- v is a slice of the bytes l. -/
def IsB (l : List UInt8) (v : Value) (w : World) : Prop := ∃ a c, v = .slice a l.length c ∧ l.length ≤ c ∧ c ≤ 9223372036854775807 ∧ RowAt encU 1 w.heap.size w a l ∧ ((a = none ∧ c = 0) ∨ ∃ b off, a = some ⟨b, off, none⟩)
theorem IsB.up {l : List UInt8} {v : Value} {w w' : World} (hb : Below w.heap.size w w') (h : IsB l v w) : IsB l v w' := by
  obtain ⟨a, c, h1, h2, h3, h4, h5⟩ := h
  exact ⟨a, c, h1, h2, h3, (h4.bel (Nat.le_refl _) hb).mono hb.size, h5⟩
theorem IsB.nil (w : World) : IsB [] (.slice none 0 0) w := ⟨none, 0, rfl, Nat.le_refl _, by omega, RowAt.nil _ _, .inl ⟨rfl, rfl⟩⟩
theorem IsB.shape {l : List UInt8} {v : Value} {w : World} (h : IsB l v w) : ∃ a n c, v = .slice a n c ∧ n = l.length ∧ n ≤ c ∧ c ≤ 9223372036854775807 := by
  obtain ⟨a, c, h1, h2, h3, _⟩ := h
  exact ⟨a, l.length, c, h1, rfl, h2, h3⟩
theorem row_isB {l : List UInt8} {v : Value} {w : World} {base : Nat} (h : w.ownsRow base 5 1 v l.length (l.flatMap encU)) : IsB l v w := by
  have h2 : Row w 5 1 encU v l := ⟨h.1, h.2.imp id fun ⟨g, cap, cur, h1, _, h3⟩ => ⟨g, cap, cur, h1, Nat.zero_le _, h3⟩⟩
  obtain ⟨a, c, h3, h4, h5, h6, h7⟩ := h2.view encU_len
  exact ⟨a, c, h3, h4, h5, h6, h7.elim (fun q => .inl ⟨q.1, q.2.2⟩) fun ⟨g, q, _⟩ => .inr ⟨g, 0, q⟩⟩
/-- The bytes of a slice, as the library's contracts tell them. -/
theorem IsB.sub {l : List UInt8} {a : Option Addr} {n c : Nat} {w : World} (h : IsB l (.slice a n c) w) (i j : Nat) (hij : i ≤ j) (hj : j ≤ n) :
    IsB ((l.drop i).take (j - i)) (sliced a i j c 1) w := by
  obtain ⟨a', c', e, h2, h3, h4, h5⟩ := h
  injection e with e1 e2 e3
  subst e1 e2 e3
  have hlen : ((l.drop i).take (j - i)).length = j - i := by rw [List.length_take, List.length_drop]; omega
  unfold sliced
  refine ⟨_, _, by rw [hlen], by rw [hlen]; omega, by omega, ?_, ?_⟩
  · intro k hk
    rw [hlen] at hk
    have hik : i + k < l.length := by omega
    obtain ⟨b, off, e, hlt, hc⟩ := h4 (i + k) hik
    rw [if_neg (by omega), e]
    refine ⟨b, off + i, by simp [Addr.add], hlt, fun q u hu => ?_⟩
    have := hc q u (by rw [← hu]; simp)
    rw [Nat.mul_one] at this ⊢
    rw [← this]
    congr 2
    omega
  · rcases h5 with ⟨rfl, rfl⟩ | ⟨b, off, rfl⟩
    · exact .inl ⟨by simp, by simp⟩
    · right
      split
      · exact ⟨b, off, rfl⟩
      · refine ⟨b, off + i, ?_⟩
        simp [Addr.add]
theorem elemB : Tryz.prog.underlying 23 = some (.slice (Tryz.prog.elem 23)) := by kernel_rfl
theorem sizeB (w : World) : (sizeOf (Tryz.prog.elem 23)).run Tryz.prog w = .ok 1 w := by
  have : Tryz.prog.elem 23 = 5 := by kernel_rfl
  rw [this]
  exact Tryz.sizeOf5 w
/-- 's[i:j]', 's[i:]', 's[:j]': the value by a name. -/
theorem IsB.lh {l : List UInt8} {a : Option Addr} {n c : Nat} {w : World} (h : IsB l (.slice a n c) w) (i j : Nat) (hij : i ≤ j) (hj : j ≤ n) :
    ∃ A, (∀ W, (Instr.slice 23 (.slice a n c) (some (.int .i64 (i : Int))) (some (.int .i64 (j : Int))) none).run Tryz.prog W = .ok (.slice A (j - i) (c - i)) W) ∧ IsB ((l.drop i).take (j - i)) (.slice A (j - i) (c - i)) w := by
  have hn : n ≤ c := by obtain ⟨a', n', c', e, h1, h2, h3⟩ := h.shape; injection e with e1 e2 e3; omega
  refine ⟨_, fun W => ?_, h.sub i j hij hj⟩
  rw [run_slice_lh W 23 a n c elemB .i64 .i64 i j (by omega) (by omega) (by omega), sizeB]
  simp only [Result.andThen_ok, Int.toNat_natCast]
  rfl
theorem IsB.lo {l : List UInt8} {a : Option Addr} {n c : Nat} {w : World} (h : IsB l (.slice a n c) w) (i : Nat) (hi : i ≤ n) :
    ∃ A, (∀ W, (Instr.slice 23 (.slice a n c) (some (.int .i64 (i : Int))) none none).run Tryz.prog W = .ok (.slice A (n - i) (c - i)) W) ∧ IsB (l.drop i) (.slice A (n - i) (c - i)) w := by
  have hl : l.length = n := by obtain ⟨a', n', c', e, h1, h2, h3⟩ := h.shape; injection e with e1 e2 e3; omega
  have h2 := h.sub i n hi (Nat.le_refl _)
  rw [List.take_of_length_le (by rw [List.length_drop]; omega)] at h2
  refine ⟨_, fun W => ?_, h2⟩
  rw [run_slice_l W 23 a n c elemB .i64 i (by omega) (by omega), sizeB]
  simp only [Result.andThen_ok, Int.toNat_natCast]
  rfl
theorem IsB.hi {l : List UInt8} {a : Option Addr} {n c : Nat} {w : World} (h : IsB l (.slice a n c) w) (j : Nat) (hj : j ≤ n) :
    ∃ A, (∀ W, (Instr.slice 23 (.slice a n c) none (some (.int .i64 (j : Int))) none).run Tryz.prog W = .ok (.slice A j c) W) ∧ IsB (l.take j) (.slice A j c) w := by
  have hn : n ≤ c := by obtain ⟨a', n', c', e, h1, h2, h3⟩ := h.shape; injection e with e1 e2 e3; omega
  have h2 := h.sub 0 j (Nat.zero_le _) hj
  refine ⟨_, fun W => ?_, by simpa [sliced] using h2⟩
  rw [run_slice_h W 23 a n c elemB .i64 j (by omega) (by omega), sizeB]
  simp only [Result.andThen_ok, Int.toNat_natCast]
  simp [sliced]
/-- '[]byte(s)'. -/
theorem conv_bytes (w : World) (s : ByteArray) (hs : s.size ≤ 1000000) : ∃ c o, (convert 9 23 (.string s)).run Tryz.prog w = .ok (.slice (some ⟨w.heap.size, 0, none⟩) s.size c) (w.drew.alloc o) ∧ IsB (by_ s) (.slice (some ⟨w.heap.size, 0, none⟩) s.size c) (w.drew.alloc o) := by
  have hr := run_bytes_of_string (P := Tryz.prog) w 9 23 5 s Tryz.underlying9 Tryz.underlying23 Tryz.underlying5
  have hc1 := grownCap_ge w s.size 0 5
  have hc2 : grownCap w s.size 0 5 ≤ 2 ^ 63 - 1 := grownCap_le_maxLen w s.size 0 5 (by unfold maxLen; omega)
  generalize grownCap w s.size 0 5 = cap at *
  refine ⟨cap, _, hr, _, _, rfl, hc1, by omega, ?_, .inr ⟨_, _, rfl⟩⟩
  intro k hk
  refine ⟨w.heap.size, 0, rfl, by show w.heap.size < (w.heap.push _).size; simp, fun j u hu => ?_⟩
  have hj : j = 0 := by have := (List.getElem?_eq_some_iff.1 hu).1; rw [encU_len] at this; omega
  subst hj
  rw [cell_of_row _ w.heap.size (0 + k * 1 + 0) (bytesRow s cap) 5 _ (heap_alloc_new w.drew _), ← hu]
  have hk2 : k < s.data.size := by simpa using hk
  simp [bytesRow, encU]
  rw [Array.getElem?_append_left (by simpa using hk2)]
  simp
  exact ⟨s.data[k], by simp, rfl⟩
set_option maxRecDepth 100000 in
/-- 'string(b)'. -/
theorem IsB.str {l : List UInt8} {a : Option Addr} {n c : Nat} {w : World} (h : IsB l (.slice a n c) w) : (convert 23 9 (.slice a n c)).run Tryz.prog w = .ok (.string ⟨l.toArray⟩) w := by
  obtain ⟨a', c', e, h2, h3, h4, h5⟩ := h
  injection e with e1 e2 e3
  subst e1 e2 e3
  rcases h5 with ⟨rfl, rfl⟩ | ⟨b, off, rfl⟩
  · obtain rfl := List.length_eq_zero_iff.1 (Nat.le_zero.1 h2)
    clear h3
    exact run_convert_bytes_nil (P := Tryz.prog) w 23 5 Tryz.underlying23 Tryz.underlying5 _ _ 9 Tryz.underlying9
  · refine run_convert_bytes_back w 23 9 5 ⟨b, off, none⟩ c l Tryz.underlying23 Tryz.underlying5 Tryz.underlying9 fun j hj => ?_
    obtain ⟨b', off', e, hc, _⟩ := h4.byte j hj
    simp only [Option.some.injEq, Addr.mk.injEq, and_true] at e
    obtain ⟨rfl, rfl⟩ := e
    rw [← hc]
    cases j <;> simp [Addr.add]
theorem further_v (l : List UInt8) (v : Value) (s : Nat) (hs : s < 4294967296) (w : World) (h : IsB l v w) :
    Calls Tryz.prog 60 #[.int .i64 (s : Int), v] w fun e w' => e = .returned (.int .i64 (sumF s l : Nat)) ∧ w = w' := by
  obtain ⟨a, c, rfl, h2, h3, h4, _⟩ := h
  exact further_any l a c h2 h3 s hs _ w (Lib.hid h4)
theorem sum_v (l : List UInt8) (v : Value) (w : World) (h : IsB l v w) :
    Calls Tryz.prog 45 #[v] w fun e w' => e = .returned (.int .i64 (sumB l : Nat)) ∧ w = w' := by
  obtain ⟨a, c, rfl, h2, h3, h4, _⟩ := h
  exact sum_any l a c h2 h3 _ w (Lib.hid h4)
theorem refsum_v (l : List UInt8) (v : Value) (w : World) (h : IsB l v w) :
    Calls Tryz.prog 70 #[v] w fun e w' => e = .returned (.int .i64 (sumB l : Nat)) ∧ w = w' := by
  obtain ⟨a, c, rfl, h2, h3, h4, _⟩ := h
  exact refsum_any l a c h2 h3 _ w (Lib.hid h4)
theorem line_v (l : List UInt8) (v : Value) (w : World) (h : IsB l v w) :
    Calls Tryz.prog 68 #[v] w fun e w' => e = .returned (.int .i64 (lineN l : Nat)) ∧ w = w' := by
  obtain ⟨a, c, rfl, h2, h3, h4, _⟩ := h
  exact line_any l a c h2 h3 _ w (Lib.hid h4)

end Go.Proofs.YtpocmijfkjjboaaGreatDoor
