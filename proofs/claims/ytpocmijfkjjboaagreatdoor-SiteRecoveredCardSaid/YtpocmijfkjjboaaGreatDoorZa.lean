/- site: the laws' own functions, the chapter's example, states behind entries (joined). -/
import Derived.Test.YtpocmijfkjjboaaGreatDoorEnB
import Derived.Deep.Slices
import Derived.WideShapes
import Derived.ChangeArms
import Derived.ProofKit
import Derived.Test.YtpocmijfkjjboaaGreatDoorSiC
import Derived.Test.YtpocmijfkjjboaaGreatDoorSiX
import Derived.Deep.AppendLies
import Derived.Test.YtpocmijfkjjboaaGreatDoorSiL
import Derived.Test.YtpocmijfkjjboaaGreatDoorSiW

/- slices among a law's arguments, opened (shared). -/
set_option linter.unusedVariables false
set_option maxRecDepth 10000
namespace Go.Proofs.YtpocmijfkjjboaaGreatDoor
open Go.ChangeShapes Go.WideShapes Go.ChangeAt Go.RowKit Go.Deep Go.ChangeMaps

theorem slice_form {P : Program} {w : World} {r : Reach} {base : Nat} {t e : TypeId} {ao : Option Addr} {len cap : Nat} (ht : P.underlying t = some (.slice e)) (h : Value.okWide P w r base t (.slice ao len cap)) : (ao = none ∧ len = 0 ∧ cap = 0) ∨ ∃ b off, ao = some ⟨b, off, none⟩ := by
  simp only [Value.okWide, ht, Cell.okWide] at h
  rcases ao with _ | ⟨b, off, sp⟩
  · refine .inl ⟨rfl, ?_⟩
    unfold Cell.ok at h
    rw [ht] at h
    rcases len with _ | len
    · rcases cap with _ | cap
      · exact ⟨rfl, rfl⟩
      · exact h.elim
    · exact h.elim
  · unfold Cell.ok at h
    rw [ht] at h
    obtain ⟨-, -, -, h, -⟩ := h
    refine .inr ⟨b, off, ?_⟩
    have h : sp = none := h
    rw [h]
instance : Inhabited Ent := ⟨⟨0, 0, ⟨#[]⟩⟩⟩
section
variable {H : Type} {enc : TypeId × Value → H}
theorem open_row {α : Type} [Inhabited α] (encA : α → List Value) (sz : Nat) {W : World} {r : Reach} {b0 : Nat} {t e : TypeId} {v : Value} {d : DataW H} {ps : List MemPlace} (ht : Tryz.prog.underlying t = some (.slice e)) (ce : Tryz.prog.cellsOf e = sz) (h0 : 0 < sz) (henc : ∀ x, (encA x).length = sz)
    (hel : ∀ n cs y, DataW.trod enc Tryz.prog W 0 (fun _ => true) true n e cs = some y → ∃ x : α, cs = encA x)
    (hval : Value.okWide Tryz.prog W r b0 t v) (hd : DataW.Trod enc Tryz.prog W 0 (fun _ => true) true t v d ps) :
    ∃ (l : List α) (ao : Option Addr) (cap : Nat), v = .slice ao l.length cap ∧ l.length ≤ cap ∧ cap ≤ 9223372036854775807 ∧ RowAt encA sz W.heap.size W ao l ∧ ((ao = none ∧ l.length = 0 ∧ cap = 0) ∨ ∃ b off, ao = some ⟨b, off, none⟩) := by
  obtain ⟨a0, len0, cap0, rfl⟩ := okWide_slice ht hval
  have hform := slice_form ht hval
  obtain ⟨fuel, hf⟩ := hd
  rcases open_slice ht hf with ⟨hc, _⟩ | ⟨a, len, cap, m, n, D, Pl, hc, _, hl, hm, hmm, _, hx⟩
  · simp only [Value.cells, List.cons.injEq, and_true, Value.slice.injEq] at hc
    obtain ⟨rfl, rfl, rfl⟩ := hc
    exact ⟨[], none, 0, rfl, Nat.le_refl _, by omega, RowAt.nil _ _, .inl ⟨rfl, rfl, rfl⟩⟩
  · simp only [Value.cells, List.cons.injEq, and_true, Value.slice.injEq] at hc
    obtain ⟨rfl, rfl, rfl⟩ := hc
    simp only [if_true] at hmm
    subst hmm
    rcases hform with ⟨h1, _⟩ | ⟨b, off, h1⟩
    · cases h1
    · simp only [Option.some.injEq] at h1
      subst h1
      have ad : ∀ i, (⟨b, off, none⟩ : Addr).add i = ⟨b, off + i, none⟩ := fun i => by cases i <;> simp [Addr.add]
      have each : ∀ i, i < len0 → ∃ x : α, ∀ j u, (encA x)[j]? = some u → W.cell? ⟨b, off + i * sz + j, none⟩ = some u := by
        intro i hi
        obtain ⟨cs', h1, h2⟩ := hx i (by omega)
        rw [ce] at h1
        obtain ⟨_, hlen, hcell⟩ := World.cells?_some h1
        obtain ⟨x, rfl⟩ := hel _ _ _ h2
        refine ⟨x, fun j u hu => ?_⟩
        have hj : j < sz := by rw [← henc x]; exact (List.getElem?_eq_some_iff.1 hu).1
        have := hcell j (by omega)
        rw [add_add, ad, ← Nat.add_assoc] at this
        rw [this, ← hu]
      obtain ⟨q, hq⟩ := choose_lt each
      refine ⟨(List.range len0).map q, some ⟨b, off, none⟩, m, by simp, by simpa using hl, by have : m ≤ 2 ^ 63 - 1 := hm; omega, ?_, .inr ⟨b, off, rfl⟩⟩
      intro k hk
      have hk' : k < len0 := by simpa using hk
      have hc := hq k hk'
      have hne : 0 < (encA (q k)).length := by rw [henc]; exact h0
      have hb : b < W.heap.size := block_lt_of_cell (hc 0 _ (List.getElem?_eq_getElem hne))
      refine ⟨b, off, rfl, hb, fun j u hu => ?_⟩
      have e : ((List.range len0).map q)[k] = q k := by simp
      rw [e] at hu
      exact hc j u hu
theorem c_int : Tryz.prog.cellsOf 3 = 1 := by kernel_rfl
theorem c_str : Tryz.prog.cellsOf 9 = 1 := by kernel_rfl
theorem c_ent : Tryz.prog.cellsOf 39 = 3 := by kernel_rfl
theorem el_ent {W : World} (n : Nat) (cs : List Value) (y : DataW H × List MemPlace) (h : DataW.trod enc Tryz.prog W 0 (fun _ => true) true n 39 cs = some y) : ∃ x : Ent, cs = encE x := by
  obtain ⟨xs, k, _, _, hl, hxl, hf⟩ := DataW.trod_struct Tryz.underlying39 h
  rw [c_ent] at hl
  match cs, hl, xs, hxl with
  | [v0, v1, v2], _, [y0, y1, y2], _ =>
    have g0 := hf 0 _ rfl
    have g1 := hf 1 _ rfl
    have g2 := hf 2 _ rfl
    simp [c_int, c_str] at g0 g1 g2
    obtain ⟨a0, e0, -, -⟩ := DataW.trod_int Tryz.underlying3 g0
    obtain ⟨a1, e1, -, -⟩ := DataW.trod_int Tryz.underlying3 g1
    obtain ⟨a2, e2, -, -⟩ := DataW.trod_string Tryz.underlying9 g2
    simp only [List.cons.injEq, and_true] at e0 e1 e2
    exact ⟨⟨a0, a1, a2⟩, by rw [e0, e1, e2]; rfl⟩
theorem open_ents {W : World} {r : Reach} {b0 : Nat} {v : Value} {d : DataW H} {ps : List MemPlace} (hval : Value.okWide Tryz.prog W r b0 35 v) (hd : DataW.Trod enc Tryz.prog W 0 (fun _ => true) true 35 v d ps) : ∃ (l : List Ent) (ao : Option Addr) (cap : Nat), v = .slice ao l.length cap ∧ l.length ≤ cap ∧ cap ≤ 9223372036854775807 ∧ RowAt encE 3 W.heap.size W ao l ∧ ((ao = none ∧ l.length = 0 ∧ cap = 0) ∨ ∃ b off, ao = some ⟨b, off, none⟩) :=
  open_row encE 3 Tryz.underlying35 c_ent (by decide) encE_len el_ent hval hd
end
end Go.Proofs.YtpocmijfkjjboaaGreatDoor

/- site's laws: large. -/
set_option linter.unusedVariables false
namespace Go.Proofs.YtpocmijfkjjboaaGreatDoor
open Go.ChangeShapes Go.WideShapes Go.ChangeAt Go.RowKit

set_option maxRecDepth 100000 in
theorem long_any (d k : Int) (x : ByteArray) (w : World) : Calls Tryz.prog 24 #[.agg #[.int .i64 d, .int .i64 k, .string x]] w fun e w' => e = .returned (.bool (decide (60 < x.size))) ∧ Below w.heap.size w w' := by
  by_cases h : 60 < x.size
  · rw [decide_eq_true h]
    go_enter Tryz.func24, Tryz.ntmps24
    go_wp2_with fail
    go_ret
    exact ⟨by first | rfl | (congr 2; simp; omega), (by repeat (first | with_reducible assumption | with_reducible exact Below.refl _ _ | with_reducible refine below_al ?_ _ | with_reducible refine below_drew ?_ | with_reducible refine below_drewN ?_ _ | with_reducible refine below_set ?_ (by dsimp only; omega) _))⟩
  · rw [decide_eq_false h]
    go_enter Tryz.func24, Tryz.ntmps24
    go_wp2_with fail
    go_ret
    exact ⟨by first | rfl | (congr 2; simp; omega), (by repeat (first | with_reducible assumption | with_reducible exact Below.refl _ _ | with_reducible refine below_al ?_ _ | with_reducible refine below_drew ?_ | with_reducible refine below_drewN ?_ _ | with_reducible refine below_set ?_ (by dsimp only; omega) _))⟩
def shortE (l : List Ent) : Bool := l.all fun x => decide (x.name.size ≤ 60)

set_option maxRecDepth 100000 in
set_option maxHeartbeats 1000000 in
theorem idxFuncE_any (l : List Ent) (ao : Option Addr) (cap : Nat) (hl : l.length ≤ cap) (hc : cap ≤ 9223372036854775807) (B : Nat) (w : World) (hB : B ≤ w.heap.size) (ha : Hid (RowAt encE 3 B w ao l)) :
    Calls Tryz.prog 42 #[.slice ao l.length cap, .func (.func 24) #[] #[]] w fun e w' => (∃ i : Int, e = .returned (.int .i64 i) ∧ (shortE l = true ∧ i = -1 ∨ shortE l = false ∧ 0 ≤ i)) ∧ Below w.heap.size w w' := by
  obtain ⟨n, hn⟩ : ∃ n, l.length = n := ⟨_, rfl⟩
  rw [hn] at hl ⊢
  replace hn := Lib.hid hn
  go_enter Tryz.func42, Tryz.ntmps42
  go_wp2_with fail
  go_loopg [8] n (fun g i wr => ∃ k : Nat, k ≤ n ∧ i = .int .i64 (k : Int) ∧ Hid (g = n - k ∧ shortE (l.take k) = true) ∧ Below w.heap.size w wr ∧ Hid (RowAt encE 3 B wr ao l))
  case atStart => exact ⟨0, Nat.zero_le _, rfl, Lib.hid ⟨rfl, rfl⟩, Below.refl _ _, ha⟩
  case round =>
    clear ha
    obtain ⟨k, hk, rfl, hr, HB, ha⟩ := hrel
    by_cases hlt : k < n
    · have hkl : Hid (k < l.length) := Lib.hid (by rw [hn.out]; exact hlt)
      obtain ⟨b, off, rfl, c0, c1, c2, hb⟩ := ha.out.ent k hkl.out
      obtain ⟨x, hx⟩ : ∃ x, l[k]'hkl.out = x := ⟨_, rfl⟩
      rw [hx] at c0 c1 c2
      replace hx := Lib.hid hx
      obtain ⟨xd, xk, xn⟩ := x
      dsimp only at c0 c1 c2
      have HC := Lib.hid (fun w => long_any xd xk xn w)
      cases hv : decide (60 < xn.size)
      · rw [hv] at HC
        replace hv := Lib.hid (of_decide_eq_false hv)
        go_wp2_with fail
        refine (HC.out _).mono ?_
        rintro e w1 ⟨rfl, hb1⟩
        have ha' := Lib.hid (ha.out.bel (Nat.le_trans hB HB.size) hb1)
        replace HB := below_then HB hb1
        clear hb1 c0 c1 c2 ha hb
        go_wp2_with fail
        go_roundg (n - (k + 1))
        case measure => have := hr.out.1; omega
        case rel =>
          refine ⟨k + 1, by omega, by go_num, Lib.hid ⟨rfl, ?_⟩, HB, ha'⟩
          unfold shortE
          rw [List.take_succ_eq_append_getElem hkl.out, List.all_append, show (List.all (List.take k l) fun x => decide (x.name.size ≤ 60)) = true from hr.out.2, hx.out]
          have := hv.out
          simp
          omega
      · rw [hv] at HC
        have hE : Hid (shortE l = false) := Lib.hid (by
          unfold shortE
          cases h : l.all fun x => decide (x.name.size ≤ 60)
          · rfl
          · have := List.all_eq_true.1 h _ (List.getElem_mem hkl.out)
            rw [hx.out] at this
            have h1 := of_decide_eq_true hv
            have h2 : xn.size ≤ 60 := of_decide_eq_true this
            omega)
        clear hv
        go_wp2_with fail
        refine (HC.out _).mono ?_
        rintro e w1 ⟨rfl, hb1⟩
        replace HB := below_then HB hb1
        clear hb1
        go_wp2_with fail
        go_ret
        exact ⟨⟨(k : Int), rfl, .inr ⟨hE.out, by omega⟩⟩, HB⟩
    · have hE : Hid (shortE l = true) := Lib.hid (by
        have := hr.out.2
        rwa [List.take_of_length_le (by have := hn.out; omega)] at this)
      go_wp2_with fail
      go_ret
      exact ⟨⟨-1, rfl, .inl ⟨hE.out, rfl⟩⟩, HB⟩

set_option maxRecDepth 100000 in
set_option maxHeartbeats 1000000 in
theorem containsFuncE_any (l : List Ent) (ao : Option Addr) (cap : Nat) (hl : l.length ≤ cap) (hc : cap ≤ 9223372036854775807) (B : Nat) (w : World) (hB : B ≤ w.heap.size) (ha : Hid (RowAt encE 3 B w ao l)) :
    Calls Tryz.prog 23 #[.slice ao l.length cap, .func (.func 24) #[] #[]] w fun e w' => e = .returned (.bool (!shortE l)) ∧ Below w.heap.size w w' := by
  have H := idxFuncE_any l ao cap hl hc B w hB ha
  obtain ⟨n, hn⟩ : ∃ n, l.length = n := ⟨_, rfl⟩
  rw [hn] at H ⊢
  clear hn
  generalize shortE l = b at *
  replace H := Lib.hid H
  go_enter Tryz.func23, Tryz.ntmps23
  go_wp2_with fail
  refine (H.out).mono ?_
  rintro e w1 ⟨⟨i, rfl, h⟩, HB⟩
  rcases h with ⟨rfl, rfl⟩ | ⟨rfl, h⟩
  · go_wp2_with fail
    go_ret
    exact ⟨rfl, HB⟩
  · go_wp2_with fail
    go_ret
    exact ⟨rfl, HB⟩

def largeB (l : List Bun) (m : ByteArray) (es : List Ent) : Bool := !shortB l 8 || decide (60 < m.size) || decide (25 < es.length) || !shortE es
set_option maxRecDepth 100000 in
set_option maxHeartbeats 1000000 in
theorem large_any (l : List Bun) (m : ByteArray) (es : List Ent) (a1 a2 : Option Addr) (c1 c2 : Nat) (h1 : l.length ≤ c1) (h2 : es.length ≤ c2) (hc1 : c1 ≤ 9223372036854775807) (hc2 : c2 ≤ 9223372036854775807) (w : World) (r1 : RowAt encB 4 w.heap.size w a1 l) (r2 : RowAt encE 3 w.heap.size w a2 es) :
    Calls Tryz.prog 6 #[.slice a1 l.length c1, .string m, .slice a2 es.length c2] w fun e w' => e = .returned (.bool (largeB l m es)) ∧ Below w.heap.size w w' := by
  have HS := Lib.hid (short36_any l 8 a1 c1 h1 (by decide) hc1 _ w (Lib.hid r1))
  have HC := Lib.hid (containsFuncE_any es a2 c2 h2 hc2 _ w (Nat.le_refl _) (Lib.hid r2))
  unfold largeB
  generalize shortB l 8 = b1 at *
  generalize shortE es = b2 at *
  obtain ⟨n, hn⟩ : ∃ n, l.length = n := ⟨_, rfl⟩
  obtain ⟨k, hk⟩ : ∃ k, es.length = k := ⟨_, rfl⟩
  rw [hn] at HS ⊢
  rw [hk] at HC ⊢
  clear hn hk r1 r2 h1 h2
  go_enter Tryz.func6, Tryz.ntmps6
  go_wp2_with fail
  refine (HS.out).mono ?_
  rintro e w1 ⟨rfl, rfl⟩
  cases b1
  · go_wp2_with fail
    go_ret
    exact ⟨rfl, Below.refl _ _⟩
  by_cases t2 : 60 < m.size
  · go_wp2_with fail
    go_ret
    exact ⟨by first | rfl | simp [*], Below.refl _ _⟩
  by_cases t3 : 25 < k
  · go_wp2_with fail
    go_ret
    exact ⟨by first | rfl | simp [*], Below.refl _ _⟩
  go_wp2_with fail
  refine (HC.out).mono ?_
  rintro e w1 ⟨rfl, HB⟩
  cases b2
  · go_wp2_with fail
    go_ret
    exact ⟨by first | rfl | simp [*], HB⟩
  · go_wp2_with fail
    go_ret
    exact ⟨by first | rfl | simp [*], HB⟩

end Go.Proofs.YtpocmijfkjjboaaGreatDoor

/- the reference's New. -/
set_option linter.unusedVariables false
namespace Go.Proofs.YtpocmijfkjjboaaGreatDoor
open Go.ChangeShapes Go.WideShapes Go.ChangeAt Go.RowKit

theorem infoBun : (Tryz.prog.info? 73).map (fun i => (i.zero, i.size, i.bytes)) = some (some (.agg #[.string ⟨#[]⟩, .string ⟨#[]⟩, .int .i64 0, .int .i64 0]), 4, 48) := by kernel_rfl
theorem made0B (w : World) (base : Nat) (hb : base ≤ w.heap.size) : (w.alloc (.cells #[] 73)).ownsRow base 73 4 (.slice (some ⟨w.heap.size, 0, none⟩) 0 0) 0 [] := World.ownsRow_made w #[] 0 hb (Nat.zero_le _) (by simp)
def RNres (l : List Bun) (m : ByteArray) (w : World) (g0 : Nat) (W : World) : Prop := (∃ g p, Ending.returned (.tuple #[.pointer (some ⟨g0, 0, none⟩), .int .i64 0]) = .returned (.tuple #[.pointer (some ⟨g, 0, none⟩), .int .i64 0]) ∧ RefW W g (st0 l m) p ∧ ∀ b, some b ∈ p.fp g → w.heap.size ≤ b) ∧ Below w.heap.size w W
def RNewPost (l : List Bun) (m : ByteArray) (w : World) (e : Ending) (w' : World) : Prop :=
  (newOk l m = false → e = .returned (.tuple #[.pointer none, .int .i64 1])) ∧ (newOk l m = true → ∃ g p, e = .returned (.tuple #[.pointer (some ⟨g, 0, none⟩), .int .i64 0]) ∧ RefW w' g (st0 l m) p ∧ ∀ b, some b ∈ p.fp g → w.heap.size ≤ b) ∧ Below w.heap.size w w'
theorem rnew_asm {l : List Bun} {m : ByteArray} {n : Nat} {w w1 w5 : World} {a5 : Option Addr} {c5 : Nat} (hn : l.length = n) (hn1 : n ≤ 1000) (HB : Below w.heap.size w w1) (hb5 : Below w1.heap.size w1 w5) (ho : w5.ownsRow w1.heap.size 73 4 (.slice a5 n c5) n (l.flatMap encB)) :
    RNres l m w (w5.heap.size + 1) ((w5.alloc (.cells (madeCells #[.int .i64 0] n) 3)).alloc (.cells #[.slice a5 n c5, .slice (some ⟨w5.heap.size, 0, none⟩) n n, .string m, .slice none 0 0, .slice none 0 0, .bool false] 66)) := by
  have h51 : w1.heap.size ≤ w5.heap.size := hb5.size
  have h10 : w.heap.size ≤ w1.heap.size := HB.size
  have hlt : ∀ b, (Value.slice a5 n c5).ownBlock = some b → b < w5.heap.size := fun b hb => by
    obtain ⟨_, ⟨q, _⟩ | ⟨g, cap, cur, q1, q2, q3, _⟩⟩ := ho
    · rw [q] at hb; cases hb
    · rw [q1] at hb
      have hb : some g = some b := hb
      injection hb with hb
      subst hb
      exact (Array.getElem?_eq_some_iff.1 q3).1
  refine ⟨⟨w5.heap.size + 1, ⟨.slice a5 n c5, .slice (some ⟨w5.heap.size, 0, none⟩) n n, .slice none 0 0, .slice none 0 0⟩, rfl, ⟨At.new' (by simp), ⟨l, rfl, ?_⟩, ?_, World.ownsRow_nil _ _ _ _, World.ownsRow_nil _ _ _ _, ?_⟩, ?_⟩, below_al (below_al (below_then HB hb5) _) _⟩
  · have h1 : Row w5 73 4 encB (.slice a5 n c5) l := by
      unfold Row
      rw [hn]
      exact ⟨ho.1, ho.2.imp id fun ⟨g, cap, cur, q1, _, q3⟩ => ⟨g, cap, cur, q1, Nat.zero_le _, q3⟩⟩
    refine h1.keep fun b hb => ?_
    have := hlt b hb
    rw [Below.heap_alloc _ _ b (by simp; omega), Below.heap_alloc _ _ b this]
  · have h1 := row_zero w5 n hn1
    have h2 : (st0 l m).at_ = List.replicate n 0 := by unfold st0; rw [hn]
    rw [h2]
    exact h1.keep fun b hb => Below.heap_alloc _ _ b (h1.lt hb)
  · rw [RDjs.iff]
    have no : ∀ o : Option Nat, Dj o none := fun o x _ h => by cases h
    refine ⟨fun x h1 h2 => ?_, fun x h1 h2 => ?_, no _, no _, fun x h1 h2 => ?_, no _, no _, no _, no _, no _⟩
    · injection h1 with h1; have := hlt x h2; omega
    · injection h1 with h1
      have h2 : some w5.heap.size = some x := h2
      injection h2 with h2
      omega
    · have h2 : some w5.heap.size = some x := h2
      injection h2 with h2
      have := hlt x h1
      omega
  · intro b hbm
    simp only [RV.fp, List.mem_cons, List.not_mem_nil, or_false] at hbm
    rcases hbm with q | q | q | q | q
    · injection q with q; omega
    · have := own_ge0 ho q.symm; omega
    · have q : some b = some w5.heap.size := q
      injection q with q; omega
    · cases q
    · cases q
theorem rnew_asm2 {l : List Bun} {m : ByteArray} {n B : Nat} {w w1 w5 : World} {a5 : Option Addr} {c5 : Nat} (hn : l.length = n) (HB : Below w.heap.size w w1) (hb5 : Below w1.heap.size w1 w5) (ho : w5.ownsRow w1.heap.size 73 4 (.slice a5 n c5) n (l.flatMap encB)) (hm : Row w5 3 1 encN (.slice (some ⟨B, 0, none⟩) n n) (List.replicate n 0)) (hB : w1.heap.size ≤ B) (hne : (Value.slice a5 n c5).ownBlock ≠ some B) :
    RNres l m w w5.heap.size (w5.alloc (.cells #[.slice a5 n c5, .slice (some ⟨B, 0, none⟩) n n, .string m, .slice none 0 0, .slice none 0 0, .bool false] 66)) := by
  have h51 : w1.heap.size ≤ w5.heap.size := hb5.size
  have h10 : w.heap.size ≤ w1.heap.size := HB.size
  have hBl : B < w5.heap.size := hm.lt rfl
  have hlt : ∀ b, (Value.slice a5 n c5).ownBlock = some b → b < w5.heap.size := fun b hb => by
    obtain ⟨_, ⟨q, _⟩ | ⟨g, cap, cur, q1, q2, q3, _⟩⟩ := ho
    · rw [q] at hb; cases hb
    · rw [q1] at hb
      have hb : some g = some b := hb
      injection hb with hb
      subst hb
      exact (Array.getElem?_eq_some_iff.1 q3).1
  refine ⟨⟨w5.heap.size, ⟨.slice a5 n c5, .slice (some ⟨B, 0, none⟩) n n, .slice none 0 0, .slice none 0 0⟩, rfl, ⟨At.new' rfl, ⟨l, rfl, ?_⟩, ?_, World.ownsRow_nil _ _ _ _, World.ownsRow_nil _ _ _ _, ?_⟩, ?_⟩, below_al (below_then HB hb5) _⟩
  · have h1 : Row w5 73 4 encB (.slice a5 n c5) l := by
      unfold Row
      rw [hn]
      exact ⟨ho.1, ho.2.imp id fun ⟨g, cap, cur, q1, _, q3⟩ => ⟨g, cap, cur, q1, Nat.zero_le _, q3⟩⟩
    exact h1.keep fun b hb => Below.heap_alloc _ _ b (hlt b hb)
  · have h2 : (st0 l m).at_ = List.replicate n 0 := by unfold st0; rw [hn]
    rw [h2]
    exact hm.keep fun b hb => Below.heap_alloc _ _ b (hm.lt hb)
  · rw [RDjs.iff]
    have no : ∀ o : Option Nat, Dj o none := fun o x _ h => by cases h
    refine ⟨fun x h1 h2 => ?_, fun x h1 h2 => ?_, no _, no _, fun x h1 h2 => ?_, no _, no _, no _, no _, no _⟩
    · injection h1 with h1; have := hlt x h2; omega
    · injection h1 with h1
      have h2 : some B = some x := h2
      injection h2 with h2
      omega
    · have h2 : some B = some x := h2
      exact hne (by rw [h1, h2])
  · intro b hbm
    simp only [RV.fp, List.mem_cons, List.not_mem_nil, or_false] at hbm
    rcases hbm with q | q | q | q | q
    · injection q with q; omega
    · have := own_ge0 ho q.symm; omega
    · have q : some b = some B := q
      injection q with q; omega
    · cases q
    · cases q
theorem made0C (w : World) (n : Nat) : ((w.alloc (.cells (madeCells #[.int .i64 0] n) 3)).alloc (.cells #[] 73)).ownsRow w.heap.size 73 4 (.slice (some ⟨w.heap.size + 1, 0, none⟩) 0 0) 0 [] := by
  have h0 := made0B (w.alloc (.cells (madeCells #[.int .i64 0] n) 3)) w.heap.size (by simp)
  rwa [show (w.alloc (.cells (madeCells #[.int .i64 0] n) 3)).heap.size = w.heap.size + 1 by simp] at h0
theorem grown_bel {w1 X w5 : World} {B : Nat} (hX : Below w1.heap.size w1 X) (hg : X.grownBy w5 (some B)) (hB : w1.heap.size ≤ B) : Below w1.heap.size w1 w5 := hX.grown hg hX.size (fun j hj => by injection hj with hj; omega)
section
variable {l : List Bun} {m : ByteArray} {n : Nat} {w w1 w5 : World} {a5 : Option Addr} {c5 : Nat}
theorem rnA (hn : l.length = n) (hn1 : n ≤ 1000) (HB : Below w.heap.size w w1) (ho : w5.ownsRow w1.heap.size 73 4 (.slice a5 (0 + n) c5) (0 + n) ([] ++ l.flatMap encB)) (hg : (w1.alloc (.cells #[] 73)).drew.grownBy w5 (Value.slice (some ⟨w1.heap.size, 0, none⟩) 0 0).ownBlock) : RNres l m w (w5.heap.size + 1) ((w5.alloc (.cells (madeCells #[.int .i64 0] n) 3)).alloc (.cells #[.slice a5 n c5, .slice (some ⟨w5.heap.size, 0, none⟩) n n, .string m, .slice none 0 0, .slice none 0 0, .bool false] 66)) :=
  rnew_asm (m := m) hn hn1 HB (grown_bel (below_drew (below_al (Below.refl _ _) _)) hg (Nat.le_refl _)) (by rw [Nat.zero_add, List.nil_append] at ho; exact ho)
theorem rnB (hn : l.length = n) (hn1 : n ≤ 1000) (HB : Below w.heap.size w w1) (ho : w5.ownsRow w1.heap.size 73 4 (.slice a5 (0 + n) c5) (0 + n) ([] ++ l.flatMap encB)) (hg : ((w1.alloc (.cells #[] 73)).alloc (.cells (madeCells #[.int .i64 0] n) 3)).drew.grownBy w5 (Value.slice (some ⟨w1.heap.size, 0, none⟩) 0 0).ownBlock) (hloc : (Value.slice a5 (0 + n) c5).ownBlock = (Value.slice (some ⟨w1.heap.size, 0, none⟩) 0 0).ownBlock ∨ (Value.slice a5 (0 + n) c5).ownBlock = some ((w1.alloc (.cells #[] 73)).alloc (.cells (madeCells #[.int .i64 0] n) 3)).drew.heap.size) : RNres l m w w5.heap.size (w5.alloc (.cells #[.slice a5 n c5, .slice (some ⟨w1.heap.size + 1, 0, none⟩) n n, .string m, .slice none 0 0, .slice none 0 0, .bool false] 66)) := by
  have hsz : (w1.alloc (.cells #[] 73)).heap.size = w1.heap.size + 1 := by simp
  have hsz2 : ((w1.alloc (.cells #[] 73)).alloc (.cells (madeCells #[.int .i64 0] n) 3)).drew.heap.size = w1.heap.size + 2 := by show ((w1.alloc (.cells #[] 73)).alloc (.cells (madeCells #[.int .i64 0] n) 3)).heap.size = _; simp
  have hmd : Row w5 3 1 encN (.slice (some ⟨w1.heap.size + 1, 0, none⟩) n n) (List.replicate n 0) := by
    have := row_zero (w1.alloc (.cells #[] 73)) n hn1
    rw [hsz] at this
    exact this.keep fun x e => by
      have e : some (w1.heap.size + 1) = some x := e
      injection e with e
      exact hg.block x (by rw [hsz2]; omega) (fun e2 => by
        have e2 : some x = some w1.heap.size := e2
        injection e2 with e2
        omega)
  rw [Nat.zero_add, List.nil_append] at ho
  rw [Nat.zero_add, hsz2] at hloc
  exact rnew_asm2 (m := m) hn HB (grown_bel (below_drew (below_al (below_al (Below.refl _ _) _) _)) hg (Nat.le_refl _)) ho hmd (Nat.le_succ _) (fun h => by
    rcases hloc with q | q
    · rw [h] at q
      have q : some (w1.heap.size + 1) = some w1.heap.size := q
      injection q with q
      omega
    · rw [h] at q
      injection q with q
      omega)
theorem rnC (hn : l.length = n) (hn1 : n ≤ 1000) (HB : Below w.heap.size w w1) (ho : w5.ownsRow w1.heap.size 73 4 (.slice a5 (0 + n) c5) (0 + n) ([] ++ l.flatMap encB)) (hg : ((w1.alloc (.cells (madeCells #[.int .i64 0] n) 3)).alloc (.cells #[] 73)).drew.grownBy w5 (Value.slice (some ⟨w1.heap.size + 1, 0, none⟩) 0 0).ownBlock) (hloc : (Value.slice a5 (0 + n) c5).ownBlock = (Value.slice (some ⟨w1.heap.size + 1, 0, none⟩) 0 0).ownBlock ∨ (Value.slice a5 (0 + n) c5).ownBlock = some ((w1.alloc (.cells (madeCells #[.int .i64 0] n) 3)).alloc (.cells #[] 73)).drew.heap.size) : RNres l m w w5.heap.size (w5.alloc (.cells #[.slice a5 n c5, .slice (some ⟨w1.heap.size, 0, none⟩) n n, .string m, .slice none 0 0, .slice none 0 0, .bool false] 66)) := by
  have hsz2 : ((w1.alloc (.cells (madeCells #[.int .i64 0] n) 3)).alloc (.cells #[] 73)).drew.heap.size = w1.heap.size + 2 := by show ((w1.alloc (.cells (madeCells #[.int .i64 0] n) 3)).alloc (.cells #[] 73)).heap.size = _; simp
  have hmd : Row w5 3 1 encN (.slice (some ⟨w1.heap.size, 0, none⟩) n n) (List.replicate n 0) := (row_zero w1 n hn1).keep fun x e => by
    have e : some w1.heap.size = some x := e
    injection e with e
    exact (hg.block x (by rw [hsz2]; omega) (fun e2 => by
      have e2 : some x = some (w1.heap.size + 1) := e2
      injection e2 with e2
      omega)).trans (Below.heap_alloc _ _ x (by rw [← e]; simp))
  rw [Nat.zero_add, List.nil_append] at ho
  rw [Nat.zero_add, hsz2] at hloc
  exact rnew_asm2 (m := m) hn HB (grown_bel (below_drew (below_al (below_al (Below.refl _ _) _) _)) hg (Nat.le_succ _)) ho hmd (Nat.le_refl _) (fun h => by
    rcases hloc with q | q
    · rw [h] at q
      have q : some w1.heap.size = some (w1.heap.size + 1) := q
      injection q with q
      omega
    · rw [h] at q
      injection q with q
      omega)
end
set_option maxRecDepth 100000 in
set_option maxHeartbeats 2000000 in
theorem rnew_some (l : List Bun) (m : ByteArray) (hm : m.size ≤ 60) (b off cap : Nat) (hl : l.length ≤ cap) (hc : cap ≤ 9223372036854775807) (hs : Hid (∀ x ∈ l, x.tag.size ≤ 60 ∧ x.mark.size ≤ 60)) (w : World) (ha : Hid (RowAt encB 4 w.heap.size w (some ⟨b, off, none⟩) l)) :
    Calls Tryz.prog 26 #[.slice (some ⟨b, off, none⟩) l.length cap, .string m] w fun e w' => RNewPost l m w e w' := by
  obtain ⟨j0, hj, hj0, hj1, hj2⟩ := info_parts infoBun
  have HV := Lib.hid (valid36_any l (some ⟨b, off, none⟩) cap hl hc hs w ha)
  have HN := Lib.hid (fun u => refisName_any m (by omega) u)
  obtain ⟨b1, hb1⟩ : ∃ b1, bunV l = b1 := ⟨_, rfl⟩
  obtain ⟨b2, hb2⟩ : ∃ b2, nameB (by_ m) = b2 := ⟨_, rfl⟩
  have hnok : newOk l m = (b1 && b2) := by unfold newOk; rw [hb1, hb2]
  have hln : b1 = true → l.length ≤ 1000 := fun h => by
    rw [h] at hb1
    unfold bunV at hb1
    simp only [Bool.and_eq_true, decide_eq_true_eq] at hb1
    exact hb1.1.1
  unfold RNewPost
  rw [hnok]
  rw [hb1] at HV
  rw [hb2] at HN
  replace hln := Lib.hid hln
  clear hb1 hb2 hnok
  obtain ⟨n, hn⟩ : ∃ n, l.length = n := ⟨_, rfl⟩
  rw [hn] at hl HV ⊢
  replace hn := Lib.hid hn
  go_enter Tryz.func26, Tryz.ntmps26
  go_wp2_with fail
  refine (HV.out).mono ?_
  rintro e w1 ⟨rfl, HB⟩
  clear HV
  cases b1
  · go_wp2_with fail
    exact bodyPost_ret (v := .tuple #[.pointer none, .int .i64 1]) (by simp [results, Tryz.results26, go_sem]) rfl ⟨fun _ => rfl, fun h => (by cases h), HB⟩
  go_wp2_with fail
  refine (HN.out _).mono ?_
  rintro e w' ⟨rfl, rfl⟩
  clear HN
  cases b2
  · go_wp2_with fail
    exact bodyPost_ret (v := .tuple #[.pointer none, .int .i64 1]) (by simp [results, Tryz.results26, go_sem]) rfl ⟨fun _ => rfl, fun h => (by cases h), HB⟩
  have hn1 : n ≤ 1000 := by rw [← hn.out]; first | exact hln.out rfl | exact hln.out trivial
  clear hln
  have hmk := fun u => run_make_row' 64 3 (.int .i64 0) 8 Tryz.underlying64 infoInt rfl .i64 .i64 n (by omega) (by omega) u
  have hnl : Hid ((l.flatMap encB).length = n * 4) := Lib.hid (by rw [flat_len encB_len, hn.out])
  have hone : Hid (∀ u ∈ l.flatMap encB, u.oneCell' = true) := Lib.hid (fun u hu => by
    obtain ⟨x, _, hx⟩ := List.mem_flatMap.1 hu
    simp [encB] at hx
    rcases hx with rfl | rfl | rfl | rfl <;> rfl)
  have HN : Hid (∀ W, Below w1.heap.size w1 W → ∀ j u, (l.flatMap encB)[j]? = some u → W.cell? ((⟨b, off, none⟩ : Addr).add j) = some u) := Lib.hid (fun W hW j u hu => by
    have e : (⟨b, off, none⟩ : Addr).add j = ⟨b, off + j, none⟩ := by cases j <;> simp [Addr.add]
    rw [e]
    exact (ha.out.bel (Nat.le_refl _) (below_then HB hW)).flat encB_len (by decide) j u hu)
  go_upto_region 3 with fail
  go_region_law (first | (refine step_append_at _ rfl (.tmp 14) (.tmp 15) 22 rfl w1.heap.size 73 j0 (.agg #[.string ⟨#[]⟩, .string ⟨#[]⟩, .int .i64 0, .int .i64 0]) 4 48 Tryz.underlying22 hj hj0 hj1 hj2 rfl (by decide) (.slice (some ⟨w1.heap.size, 0, none⟩) 0 0) 0 [] (by first | rfl | (simp [Act.eval]; done)) (by exact (made0B w1 _ (Nat.le_refl _)).drew) ⟨b, off, none⟩ n cap (l.flatMap encB) (by first | rfl | (simp [Act.eval]; done)) hnl.out (HN.out _ (by repeat (first | with_reducible assumption | with_reducible exact Below.refl _ _ | with_reducible refine below_al ?_ _ | with_reducible refine below_drew ?_))) hone.out (by unfold maxLen; omega) (by omega) (by first | exact (below_drew (below_al (Below.refl _ _) _)).size | exact (below_drew (below_al (below_al (Below.refl _ _) _) _)).size) ?_; intro a5 c5 w5 ho5 hg5 hloc; have hasm := rnA (m := m) hn.out hn1 HB ho5 hg5; clear hg5 hloc ho5) | (refine step_append_at _ rfl (.tmp 14) (.tmp 15) 22 rfl w1.heap.size 73 j0 (.agg #[.string ⟨#[]⟩, .string ⟨#[]⟩, .int .i64 0, .int .i64 0]) 4 48 Tryz.underlying22 hj hj0 hj1 hj2 rfl (by decide) (.slice (some ⟨w1.heap.size, 0, none⟩) 0 0) 0 [] (by first | rfl | (simp [Act.eval]; done)) (by exact ((made0B w1 _ (Nat.le_refl _)).alloc _).drew) ⟨b, off, none⟩ n cap (l.flatMap encB) (by first | rfl | (simp [Act.eval]; done)) hnl.out (HN.out _ (by repeat (first | with_reducible assumption | with_reducible exact Below.refl _ _ | with_reducible refine below_al ?_ _ | with_reducible refine below_drew ?_))) hone.out (by unfold maxLen; omega) (by omega) (by first | exact (below_drew (below_al (Below.refl _ _) _)).size | exact (below_drew (below_al (below_al (Below.refl _ _) _) _)).size) ?_; intro a5 c5 w5 ho5 hg5 hloc; have hasm := rnB (m := m) hn.out hn1 HB ho5 hg5 hloc; clear hg5 hloc ho5) | (refine step_append_at _ rfl (.tmp 14) (.tmp 15) 22 rfl w1.heap.size 73 j0 (.agg #[.string ⟨#[]⟩, .string ⟨#[]⟩, .int .i64 0, .int .i64 0]) 4 48 Tryz.underlying22 hj hj0 hj1 hj2 rfl (by decide) (.slice (some ⟨w1.heap.size + 1, 0, none⟩) 0 0) 0 [] (by first | rfl | (simp [Act.eval]; done)) (by exact (made0C w1 n).drew) ⟨b, off, none⟩ n cap (l.flatMap encB) (by first | rfl | (simp [Act.eval]; done)) hnl.out (HN.out _ (by repeat (first | with_reducible assumption | with_reducible exact Below.refl _ _ | with_reducible refine below_al ?_ _ | with_reducible refine below_drew ?_))) hone.out (by unfold maxLen; omega) (by omega) (by first | exact (below_drew (below_al (Below.refl _ _) _)).size | exact (below_drew (below_al (below_al (Below.refl _ _) _) _)).size) ?_; intro a5 c5 w5 ho5 hg5 hloc; have hasm := rnC (m := m) hn.out hn1 HB ho5 hg5 hloc; clear hg5 hloc ho5))
  all_goals
    clear hmk hone HN hnl
    go_wp2_with fail
    first
      | exact bodyPost_ret (v := .tuple #[.pointer (some ⟨w5.heap.size + 1, 0, none⟩), .int .i64 0]) (by simp [results, Tryz.results26, go_sem]) rfl ⟨fun h => (by cases h), fun _ => hasm.1, hasm.2⟩
      | exact bodyPost_ret (v := .tuple #[.pointer (some ⟨w5.heap.size, 0, none⟩), .int .i64 0]) (by simp [results, Tryz.results26, go_sem]) rfl ⟨fun h => (by cases h), fun _ => hasm.1, hasm.2⟩

end Go.Proofs.YtpocmijfkjjboaaGreatDoor

/- the reference's New at every slice. -/
set_option linter.unusedVariables false
namespace Go.Proofs.YtpocmijfkjjboaaGreatDoor
open Go.ChangeShapes Go.WideShapes Go.ChangeAt Go.RowKit

theorem RNres.drew {l : List Bun} {m : ByteArray} {w W : World} {g0 : Nat} (h : RNres l m w g0 W) : RNres l m w g0 W.drew := by
  obtain ⟨⟨g, p, e, h1, h2⟩, hb⟩ := h
  exact ⟨⟨g, p, e, h1.bel (drew_bel W), h2⟩, below_drew hb⟩
theorem step_append_none {P : Program} (w : World) {ops : Array Oper} {o : Oper} {a : Act} {K : Act → World → Prop} {Q : Exit → Act → World → Prop} {E : Prop} (hgd : o.guard = none) (s x : Operand) (t : TypeId)
    (ho : o.op = .call { callee := .builtin .append, args := #[s, x], argTypes := #[t, t] })
    (base : Nat) (e : TypeId) (i : TypeInfo) (size : Nat) (ht : P.underlying t = some (.slice e)) (hi : P.info? e = some i)
    (v : Value) (n : Nat) (xs : List Value) (hs : a.eval s = v) (hown : w.ownsRow base e size v n xs) (hx : a.eval x = .slice none 0 0)
    (h : K (a.put o.dst v) w) : if Region.wanted o (yielded ops a.tmps) = true then Oper.wp P o a w K Q else E := by
  have hw : Region.wanted o (yielded ops a.tmps) = true := by simp [Region.wanted, hgd]
  rw [if_pos hw]
  have hrun := run_append_owned_none (P := P) (w := w) base t o.type e i size ht hi v n xs hown
  unfold Oper.wp
  simp [execOp, ho, resolve, invoke, builtin, hs, hx, hrun, Result.andThen]
  exact h
set_option maxRecDepth 100000 in
set_option maxHeartbeats 2000000 in
theorem rnew_nil (m : ByteArray) (hm : m.size ≤ 60) (w : World) :
    Calls Tryz.prog 26 #[.slice none 0 0, .string m] w fun e w' => RNewPost [] m w e w' := by
  obtain ⟨j0, hj, hj0, hj1, hj2⟩ := info_parts infoBun
  have HV := Lib.hid (valid36_any [] none 0 (Nat.le_refl _) (by decide) (Lib.hid fun x hx => by cases hx) w (Lib.hid (RowAt.nil w none)))
  have HN := Lib.hid (fun u => refisName_any m (by omega) u)
  obtain ⟨b2, hb2⟩ : ∃ b2, nameB (by_ m) = b2 := ⟨_, rfl⟩
  have hnok : newOk [] m = (true && b2) := by unfold newOk; rw [hb2]; rfl
  rw [show bunV [] = true from rfl] at HV
  unfold RNewPost
  rw [hnok]
  rw [hb2] at HN
  clear hb2 hnok
  go_enter Tryz.func26, Tryz.ntmps26
  go_wp2_with fail
  refine (HV.out).mono ?_
  rintro e w1 ⟨rfl, HB⟩
  clear HV
  go_wp2_with fail
  refine (HN.out _).mono ?_
  rintro e w' ⟨rfl, rfl⟩
  clear HN
  cases b2
  · go_wp2_with fail
    exact bodyPost_ret (v := .tuple #[.pointer none, .int .i64 1]) (by simp [results, Tryz.results26, go_sem]) rfl ⟨fun _ => rfl, fun h => (by cases h), HB⟩
  have hmk : ∀ u, (Instr.makeSlice 64 (.int .i64 0) (.int .i64 0)).run Tryz.prog u = .ok (.slice (some ⟨u.heap.size, 0, none⟩) 0 0) (u.alloc (.cells (madeCells #[.int .i64 0] 0) 3)) := fun u => run_make_row' 64 3 (.int .i64 0) 8 Tryz.underlying64 infoInt rfl .i64 .i64 0 (by omega) (by omega) u
  have hrA : RNres [] m w (w1.heap.size + 2) (((w1.alloc (.cells #[] 73)).alloc (.cells (madeCells #[.int .i64 0] 0) 3)).alloc (.cells #[.slice (some ⟨w1.heap.size, 0, none⟩) 0 0, .slice (some ⟨w1.heap.size + 1, 0, none⟩) 0 0, .string m, .slice none 0 0, .slice none 0 0, .bool false] 66)) := by
    have hsz : (w1.alloc (.cells #[] 73)).heap.size = w1.heap.size + 1 := by simp
    have hsz2 : ((w1.alloc (.cells #[] 73)).alloc (.cells (madeCells #[.int .i64 0] 0) 3)).heap.size = w1.heap.size + 2 := by simp
    have h1 := row_zero (w1.alloc (.cells #[] 73)) 0 (by decide)
    rw [hsz] at h1
    have h2 := rnew_asm2 (l := []) (m := m) (n := 0) (B := w1.heap.size + 1) (c5 := 0) (a5 := some ⟨w1.heap.size, 0, none⟩) rfl HB (below_al (below_al (Below.refl _ _) _) _) ((made0B w1 _ (Nat.le_refl _)).alloc (.cells (madeCells #[.int .i64 0] 0) 3)) h1 (Nat.le_succ _) (fun h => by have h : some w1.heap.size = some (w1.heap.size + 1) := h; injection h with h; omega)
    rwa [hsz2] at h2
  have hrC : RNres [] m w (w1.heap.size + 2) (((w1.alloc (.cells (madeCells #[.int .i64 0] 0) 3)).alloc (.cells #[] 73)).alloc (.cells #[.slice (some ⟨w1.heap.size + 1, 0, none⟩) 0 0, .slice (some ⟨w1.heap.size, 0, none⟩) 0 0, .string m, .slice none 0 0, .slice none 0 0, .bool false] 66)) := by
    have hsz2 : ((w1.alloc (.cells (madeCells #[.int .i64 0] 0) 3)).alloc (.cells #[] 73)).heap.size = w1.heap.size + 2 := by simp
    have h1 := row_zero w1 0 (by decide)
    have h2 := rnew_asm2 (l := []) (m := m) (n := 0) (B := w1.heap.size) (c5 := 0) (a5 := some ⟨w1.heap.size + 1, 0, none⟩) rfl HB (below_al (below_al (Below.refl _ _) _) _) (made0C w1 0) (h1.keep fun b e => Below.heap_alloc _ _ b (h1.lt e)) (Nat.le_refl _) (fun h => by have h : some (w1.heap.size + 1) = some w1.heap.size := h; injection h with h; omega)
    rwa [hsz2] at h2
  replace hrA := Lib.hid hrA.drew
  replace hrC := Lib.hid hrC.drew
  go_upto_region 3 with fail
  go_region_law (first | (refine step_append_none _ rfl (.tmp 14) (.tmp 15) 22 rfl w1.heap.size 73 j0 4 Tryz.underlying22 hj (.slice (some ⟨w1.heap.size, 0, none⟩) 0 0) 0 [] (by first | rfl | (simp [Act.eval]; done)) (by first | exact (made0B w1 _ (Nat.le_refl _)).drew | exact ((made0B w1 _ (Nat.le_refl _)).alloc _).drew) (by first | rfl | (simp [Act.eval]; done)) ?_) | (refine step_append_none _ rfl (.tmp 14) (.tmp 15) 22 rfl w1.heap.size 73 j0 4 Tryz.underlying22 hj (.slice (some ⟨w1.heap.size + 1, 0, none⟩) 0 0) 0 [] (by first | rfl | (simp [Act.eval]; done)) (by exact (made0C w1 0).drew) (by first | rfl | (simp [Act.eval]; done)) ?_))
  all_goals
    clear hmk
    go_wp2_with fail
    first
      | exact bodyPost_ret (v := .tuple #[.pointer (some ⟨w1.heap.size + 2, 0, none⟩), .int .i64 0]) (by simp [results, Tryz.results26, go_sem]) rfl ⟨fun h => (by cases h), fun _ => hrA.out.1, hrA.out.2⟩
      | exact bodyPost_ret (v := .tuple #[.pointer (some ⟨w1.heap.size + 2, 0, none⟩), .int .i64 0]) (by simp [results, Tryz.results26, go_sem]) rfl ⟨fun h => (by cases h), fun _ => hrC.out.1, hrC.out.2⟩
theorem rnew_any (l : List Bun) (m : ByteArray) (hm : m.size ≤ 60) (ao : Option Addr) (cap : Nat) (hl : l.length ≤ cap) (hc : cap ≤ 9223372036854775807) (hs : Hid (∀ x ∈ l, x.tag.size ≤ 60 ∧ x.mark.size ≤ 60)) (hf : (ao = none ∧ l.length = 0 ∧ cap = 0) ∨ ∃ b off, ao = some ⟨b, off, none⟩) (w : World) (ha : Hid (RowAt encB 4 w.heap.size w ao l)) :
    Calls Tryz.prog 26 #[.slice ao l.length cap, .string m] w fun e w' => RNewPost l m w e w' := by
  rcases hf with ⟨rfl, h0, rfl⟩ | ⟨b, off, rfl⟩
  · obtain rfl := List.length_eq_zero_iff.1 h0
    exact rnew_nil m hm w
  · exact rnew_some l m hm b off cap hl hc hs w ha

end Go.Proofs.YtpocmijfkjjboaaGreatDoor

/- site's laws: a site and the reference's side by side. -/
set_option linter.unusedVariables false
namespace Go.Proofs.YtpocmijfkjjboaaGreatDoor
open Go.ChangeShapes Go.WideShapes Go.ChangeAt Go.RowKit

theorem same_any (s : St) (hok : s.ok) (g h : Nat) (p : SV) (q : RV) (w : World) (hs : SiteW w g s p) (ht : RefW w h s q) :
    Calls Tryz.prog 9 #[.pointer (some ⟨g, 0, none⟩), .pointer (some ⟨h, 0, none⟩)] w fun e w' => e = .returned (.bool true) ∧ Below w.heap.size w w' := by
  have hm := miss_len s.tags s.at_
  have h1 := hok.tagsN
  have h2 := hok.openN
  have h3 := hok.keptN
  exact same_core g h _ _ _ (missS s.tags s.at_) s.open_ s.kept (readyS s) q.vc q.vk (by omega) (by omega) (by omega) w (ht.own.c 3) (ht.own.c 4)
    (row_isS (base := 0) ht.opn) (row_isE (base := 0) ht.ents)
    (Lib.hid fun u hb => account_any s hok g p u (hs.bel hb)) (Lib.hid fun u hb => refaccount_any s hok h q u (ht.bel hb))
    (Lib.hid fun u hb => (missing_any s hok g p u (hs.bel hb)).mono fun e w' ⟨⟨v, e1, e2⟩, e3⟩ => ⟨⟨v, e1, row_isS e2.out⟩, e3⟩)
    (Lib.hid fun u hb => (refmissing_any s hok h q u (ht.bel hb)).mono fun e w' ⟨⟨v, e1, e2⟩, e3⟩ => ⟨⟨v, e1, row_isS e2.out⟩, e3⟩)
    (Lib.hid fun u hb => (open_any s hok g p u (hs.bel hb)).mono fun e w' ⟨⟨v, e1, e2⟩, e3⟩ => ⟨⟨v, e1, row_isS e2.out⟩, e3⟩)
    (Lib.hid fun u hb => ready_any s hok g p u (hs.bel hb)) (Lib.hid fun u hb => refready_any s hok h q u (ht.bel hb))
    (Lib.hid fun u hb => (entries_any s hok g p u (hs.bel hb)).mono fun e w' ⟨⟨v, e1, e2⟩, e3⟩ => ⟨⟨v, e1, row_isE e2.out⟩, e3⟩)
/-- A site in state s and the reference's in state t, apart from each other, in blocks from B on, apart from the block X. -/
def Duo (B X : Nat) (w : World) (g h : Nat) (s t : St) : Prop :=
  ∃ p q, SiteW w g s p ∧ RefW w h t q ∧ (∀ b, some b ∈ p.fp g → B ≤ b ∧ b ≠ X) ∧ (∀ b, some b ∈ q.fp h → B ≤ b ∧ b ≠ X) ∧ ∀ b, some b ∈ p.fp g → some b ∉ q.fp h
section
variable {B X : Nat} {w w' u : World} {g h : Nat} {s t : St}
theorem Duo.up (hb : Below w.heap.size w w') (hd : Duo B X w g h s t) : Duo B X w' g h s t := by
  obtain ⟨p, q, h1, h2, h3⟩ := hd
  exact ⟨p, q, h1.bel hb, h2.bel hb, h3⟩
theorem Duo.other (Y : Nat) (hY : w.heap.size ≤ Y) (hd : Duo B X w g h s t) : Duo B Y w g h s t := by
  obtain ⟨p, q, h1, h2, h3, h4, h5⟩ := hd
  exact ⟨p, q, h1, h2, fun b hb => ⟨(h3 b hb).1, by have := h1.lt hb; omega⟩, fun b hb => ⟨(h4 b hb).1, by have := h2.lt hb; omega⟩, h5⟩
theorem duo_do (hd : Duo B X u g h s t) (hB : B ≤ u.heap.size) (hok : s.ok) (xd xk : Int) (xn : ByteArray) (hz : xn.size ≤ 60) {cs : Array Value} (kx : At u X 39 cs) :
    Calls Tryz.prog 11 #[.pointer (some ⟨g, 0, none⟩), .agg #[.int .i64 xd, .int .i64 xk, .string xn]] u fun e w' => e = .returned (.int .i64 (doS s ⟨xd, xk, xn⟩).1) ∧ Duo B X w' g h (doS s ⟨xd, xk, xn⟩).2 t ∧ At w' X 39 cs ∧ Below B u w' := by
  obtain ⟨p, q, h1, h2, h3, h4, h5⟩ := hd
  refine (do_any s hok xd xk xn hz g p u h1).mono ?_
  rintro e w' ⟨rfl, p', k1, k2, k3⟩
  refine ⟨rfl, ⟨p', q, k1, h2.frm k2 fun b hb hn => h5 b hn hb, fun b hb => ?_, h4, fun b hb hn => ?_⟩, (k2.block X kx.lt (fun hm => (h3 X hm).2 rfl)).trans kx, k2.below hB fun x hx => (h3 x hx).1⟩
  · rcases k3 b hb with r | r
    · exact h3 b r
    · exact ⟨Nat.le_trans hB r, by have := kx.lt; omega⟩
  · rcases k3 b hb with r | r
    · exact h5 b r hn
    · have := h2.lt hn
      omega
theorem duo_rdo (hd : Duo B X u g h s t) (hB : B ≤ u.heap.size) (hok : t.ok) (xd xk : Int) (xn : ByteArray) (hz : xn.size ≤ 60) {cs : Array Value} (kx : At u X 39 cs) :
    Calls Tryz.prog 28 #[.pointer (some ⟨h, 0, none⟩), .agg #[.int .i64 xd, .int .i64 xk, .string xn]] u fun e w' => e = .returned (.int .i64 (doS t ⟨xd, xk, xn⟩).1) ∧ Duo B X w' g h s (doS t ⟨xd, xk, xn⟩).2 ∧ At w' X 39 cs ∧ Below B u w' := by
  obtain ⟨p, q, h1, h2, h3, h4, h5⟩ := hd
  refine (rdo_any t hok xd xk xn hz h q u h2).mono ?_
  rintro e w' ⟨rfl, q', k1, k2, k3⟩
  refine ⟨rfl, ⟨p, q', h1.frm k2 fun b hb hn => h5 b hb hn, k1, h3, fun b hb => ?_, fun b hb hn => ?_⟩, (k2.block X kx.lt (fun hm => (h4 X hm).2 rfl)).trans kx, k2.below hB fun x hx => (h4 x hx).1⟩
  · rcases k3 b hb with r | r
    · exact h4 b r
    · exact ⟨Nat.le_trans hB r, by have := kx.lt; omega⟩
  · rcases k3 b hn with r | r
    · exact h5 b hb r
    · have := h1.lt hb
      omega
theorem duo_same (hd : Duo B X u g h s s) (hok : s.ok) : Calls Tryz.prog 9 #[.pointer (some ⟨g, 0, none⟩), .pointer (some ⟨h, 0, none⟩)] u fun e w' => e = .returned (.bool true) ∧ Below u.heap.size u w' := by
  obtain ⟨p, q, h1, h2, _⟩ := hd
  exact same_any s hok g h p q u h1 h2
end
theorem below_le {a u w : World} (h : Below a.heap.size a u) (k : Below a.heap.size u w) : Below a.heap.size a w := h.trans k

end Go.Proofs.YtpocmijfkjjboaaGreatDoor

/- site's laws: the chapter's example holds. -/
set_option linter.unusedVariables false
namespace Go.Proofs.YtpocmijfkjjboaaGreatDoor
open Go.ChangeShapes Go.WideShapes Go.ChangeAt Go.RowKit

def exL : List Bun := [⟨⟨#[120]⟩, ⟨#[97]⟩, 1, 1⟩, ⟨⟨#[121]⟩, ⟨#[97]⟩, 1, 1⟩]
def exM : ByteArray := ⟨#[109]⟩
def exE : Nat → Ent
  | 0 => ⟨0, 1, ⟨#[120]⟩⟩
  | 1 => ⟨0, 1, ⟨#[121]⟩⟩
  | _ => ⟨1, 2, ⟨#[120]⟩⟩
def exS : Nat → St
  | 0 => st0 exL exM
  | k + 1 => (doS (exS k) (exE k)).2
def exC : Array Value := #[.int .i64 0, .int .i64 1, .string ⟨#[120]⟩, .int .i64 0, .int .i64 1, .string ⟨#[121]⟩, .int .i64 1, .int .i64 2, .string ⟨#[120]⟩]
theorem ex_new : newOk exL exM = true := by decide +kernel
theorem ex_do0 : (doS (exS 0) (exE 0)).1 = 0 := by decide +kernel
theorem ex_do1 : (doS (exS 1) (exE 1)).1 = 0 := by decide +kernel
theorem ex_do2 : (doS (exS 2) (exE 2)).1 = 0 := by decide +kernel
theorem ex_acc : (exS 3).at_.count 0 = 0 ∧ (exS 3).at_.count 1 = 1 ∧ (exS 3).at_.count 2 = 1 := by decide +kernel
theorem ex_miss : missS (exS 3).tags (exS 3).at_ = [⟨#[121]⟩] := by decide +kernel
def ex4 : St := (doS (exS 3) ⟨1, 5, exM⟩).2
def ex5 : St := (doS ex4 ⟨2, 2, ⟨#[121]⟩⟩).2
theorem ex_do3 : (doS (exS 3) ⟨1, 5, exM⟩).1 = 24 := by decide +kernel
theorem ex_do4 : (doS ex4 ⟨2, 2, ⟨#[121]⟩⟩).1 = 0 := by decide +kernel
theorem ex_do5 : (doS ex5 ⟨3, 5, exM⟩).1 = 0 := by decide +kernel
theorem exS_ok : ∀ k, (exS k).ok
  | 0 => st0_ok exL exM ex_new (by intro x hx; simp [exL] at hx; rcases hx with rfl | rfl <;> decide)
  | k + 1 => doS_ok _ (exS_ok k) _ (by unfold exE; split <;> decide)
def One (B X : Nat) (w : World) (g : Nat) (s : St) : Prop := ∃ p, SiteW w g s p ∧ ∀ b, some b ∈ p.fp g → B ≤ b ∧ b ≠ X
section
variable {B X : Nat} {w w' u : World} {g : Nat} {s : St}
theorem One.up (hb : Below w.heap.size w w') (hd : One B X w g s) : One B X w' g s := by
  obtain ⟨p, h1, h3⟩ := hd
  exact ⟨p, h1.bel hb, h3⟩
theorem One.other (Y : Nat) (hY : w.heap.size ≤ Y) (hd : One B X w g s) : One B Y w g s := by
  obtain ⟨p, h1, h3⟩ := hd
  exact ⟨p, h1, fun b hb => ⟨(h3 b hb).1, by have := h1.lt hb; omega⟩⟩
theorem one_do (hd : One B X u g s) (hB : B ≤ u.heap.size) (hok : s.ok) (xd xk : Int) (xn : ByteArray) (hz : xn.size ≤ 60) {cs : Array Value} (kx : At u X 39 cs) :
    Calls Tryz.prog 11 #[.pointer (some ⟨g, 0, none⟩), .agg #[.int .i64 xd, .int .i64 xk, .string xn]] u fun e w' => e = .returned (.int .i64 (doS s ⟨xd, xk, xn⟩).1) ∧ One B X w' g (doS s ⟨xd, xk, xn⟩).2 ∧ At w' X 39 cs ∧ Below B u w' := by
  obtain ⟨p, h1, h3⟩ := hd
  refine (do_any s hok xd xk xn hz g p u h1).mono ?_
  rintro e w' ⟨rfl, p', k1, k2, k3⟩
  refine ⟨rfl, ⟨p', k1, fun b hb => ?_⟩, (k2.block X kx.lt (fun hm => (h3 X hm).2 rfl)).trans kx, k2.below hB fun x hx => (h3 x hx).1⟩
  rcases k3 b hb with r | r
  · exact h3 b r
  · exact ⟨Nat.le_trans hB r, by have := kx.lt; omega⟩
end
set_option maxRecDepth 100000 in
theorem example_any (w : World) : Calls Tryz.prog 21 #[] w fun e w' => e = .returned (.slice (some ⟨w.heap.size, 0, none⟩) 2 2) ∧ RowAt encB 4 w'.heap.size w' (some ⟨w.heap.size, 0, none⟩) exL ∧ Below w.heap.size w w' := by
  go_enter Tryz.func21, Tryz.ntmps21
  go_wp2_with fail
  generalize hWW : World.alloc _ _ = W1
  have kx : At W1 w.heap.size 73 #[.string ⟨#[120]⟩, .string ⟨#[97]⟩, .int .i64 1, .int .i64 1, .string ⟨#[121]⟩, .string ⟨#[97]⟩, .int .i64 1, .int .i64 1] := by rw [← hWW]; exact At.new' rfl
  have HB : Below w.heap.size w W1 := by rw [← hWW]; exact below_al (Below.refl _ _) _
  clear hWW
  go_ret
  refine ⟨rfl, ?_, HB⟩
  intro k hk
  refine ⟨w.heap.size, 0, rfl, kx.lt, fun j u hu => ?_⟩
  have hk2 : k = 0 ∨ k = 1 := by simp [exL] at hk; omega
  rcases hk2 with rfl | rfl
  · rw [kx.c, ← hu]
    have hj : j < 4 := (List.getElem?_eq_some_iff.1 hu).1
    rcases j with _ | _ | _ | _ | j <;> first | rfl | omega
  · rw [kx.c, ← hu]
    have hj : j < 4 := (List.getElem?_eq_some_iff.1 hu).1
    rcases j with _ | _ | _ | _ | j <;> first | rfl | omega

set_option maxRecDepth 100000 in
set_option maxHeartbeats 4000000 in
theorem awake_any (w : World) : Calls Tryz.prog 5 #[] w fun e w' => e = .returned (.bool true) ∧ Below w.heap.size w w' := by
  go_enter Tryz.func5, Tryz.ntmps5
  go_wp2_with fail
  refine (example_any _).mono ?_
  rintro e w1 ⟨rfl, hrow, HB⟩
  replace hrow := Lib.hid hrow
  go_wp2_with fail
  refine (new_any exL exM (by decide) (some ⟨w.heap.size, 0, none⟩) 2 (by decide) (by decide) (Lib.hid (by intro x hx; simp [exL] at hx; rcases hx with rfl | rfl <;> decide)) w1 hrow).mono ?_
  rintro e w2 ⟨-, hgood, hb2⟩
  obtain ⟨g, p, rfl, hs1, hfp⟩ := hgood ex_new
  have hO : One w.heap.size w2.heap.size w2 g (exS 0) := ⟨p, hs1, fun b hb => ⟨Nat.le_trans HB.size (hfp b hb), by have := hs1.lt hb; omega⟩⟩
  replace HB := below_then HB hb2
  clear hgood hb2 hs1 hfp hrow
  go_upto_region 5 with fail
  obtain ⟨E, hE⟩ : ∃ E, w2.heap.size = E := ⟨_, rfl⟩
  generalize hWW : World.alloc _ _ = W3
  have kE : At W3 E 39 exC := by rw [← hWW]; exact At.new' hE.symm
  have hbW : Below w2.heap.size w2 W3 := by rw [← hWW]; exact below_al (Below.refl _ _) _
  have hO3 : Hid (One w.heap.size E W3 g (exS 0)) := Lib.hid (by rw [← hE]; exact hO.up hbW)
  replace HB := below_then HB hbW
  rw [hE]
  clear hWW hbW hE hO
  go_wp2_with fail
  go_loopg [24] 3 (fun g1 i wr => ∃ k : Nat, k ≤ 3 ∧ i = .int .i64 (k : Int) ∧ Hid (g1 = 3 - k) ∧ Hid (One w.heap.size E wr g (exS k)) ∧ At wr E 39 exC ∧ Below w.heap.size w wr)
  case atStart => exact ⟨0, by omega, rfl, Lib.hid rfl, hO3, kE, HB⟩
  case round =>
    clear hO3 kE HB
    obtain ⟨k, hk, rfl, hr, hO, kE, HB⟩ := hrel
    have hk4 : k = 0 ∨ k = 1 ∨ k = 2 ∨ k = 3 := by omega
    clear hk
    rcases hk4 with rfl | rfl | rfl | rfl
    · have e0 : wr.cell? ⟨E, 0, none⟩ = some (.int .i64 0) := kE.c 0
      have e1 : wr.cell? ⟨E, 1, none⟩ = some (.int .i64 1) := kE.c 1
      have e2 : wr.cell? ⟨E, 2, none⟩ = some (.string ⟨#[120]⟩) := kE.c 2
      go_upto_region 7 with fail
      generalize hWW : World.alloc _ _ = W1
      have kx : At W1 wr.heap.size 39 #[.int .i64 0, .int .i64 1, .string ⟨#[120]⟩] := by rw [← hWW]; exact At.new' rfl
      have hbW : Below wr.heap.size wr W1 := by rw [← hWW]; exact below_al (Below.refl _ _) _
      have hO1 := Lib.hid (hO.out.up hbW)
      replace kE := At.bel kE hbW
      replace HB := below_then HB hbW
      clear hWW hbW e0 e1 e2 hO
      obtain ⟨x0, x1, x2⟩ := kx.three
      go_wp2_with fail
      refine (one_do (B := w.heap.size) (X := E) hO1.out HB.size (exS_ok 0) 0 1 ⟨#[120]⟩ (by decide) kE).mono ?_
      rintro e w6 ⟨rfl, hO6, kE6, hb6⟩
      have hc : (doS (exS 0) ⟨0, 1, ⟨#[120]⟩⟩).1 = 0 := ex_do0
      rw [hc]
      replace hO6 : Hid (One w.heap.size E w6 g (exS 1)) := Lib.hid hO6
      have HB6 := HB.trans hb6
      clear hc x0 x1 x2 kx hO1 kE HB hb6
      go_wp2_with fail
      go_roundg (3 - (0 + 1))
      case measure => have := hr.out; omega
      case rel => exact ⟨0 + 1, by omega, by go_num, Lib.hid rfl, hO6, kE6, HB6⟩
    · have e0 : wr.cell? ⟨E, 3, none⟩ = some (.int .i64 0) := kE.c 3
      have e1 : wr.cell? ⟨E, 4, none⟩ = some (.int .i64 1) := kE.c 4
      have e2 : wr.cell? ⟨E, 5, none⟩ = some (.string ⟨#[121]⟩) := kE.c 5
      go_upto_region 7 with fail
      generalize hWW : World.alloc _ _ = W1
      have kx : At W1 wr.heap.size 39 #[.int .i64 0, .int .i64 1, .string ⟨#[121]⟩] := by rw [← hWW]; exact At.new' rfl
      have hbW : Below wr.heap.size wr W1 := by rw [← hWW]; exact below_al (Below.refl _ _) _
      have hO1 := Lib.hid (hO.out.up hbW)
      replace kE := At.bel kE hbW
      replace HB := below_then HB hbW
      clear hWW hbW e0 e1 e2 hO
      obtain ⟨x0, x1, x2⟩ := kx.three
      go_wp2_with fail
      refine (one_do (B := w.heap.size) (X := E) hO1.out HB.size (exS_ok 1) 0 1 ⟨#[121]⟩ (by decide) kE).mono ?_
      rintro e w6 ⟨rfl, hO6, kE6, hb6⟩
      have hc : (doS (exS 1) ⟨0, 1, ⟨#[121]⟩⟩).1 = 0 := ex_do1
      rw [hc]
      replace hO6 : Hid (One w.heap.size E w6 g (exS 2)) := Lib.hid hO6
      have HB6 := HB.trans hb6
      clear hc x0 x1 x2 kx hO1 kE HB hb6
      go_wp2_with fail
      go_roundg (3 - (1 + 1))
      case measure => have := hr.out; omega
      case rel => exact ⟨1 + 1, by omega, by go_num, Lib.hid rfl, hO6, kE6, HB6⟩
    · have e0 : wr.cell? ⟨E, 6, none⟩ = some (.int .i64 1) := kE.c 6
      have e1 : wr.cell? ⟨E, 7, none⟩ = some (.int .i64 2) := kE.c 7
      have e2 : wr.cell? ⟨E, 8, none⟩ = some (.string ⟨#[120]⟩) := kE.c 8
      go_upto_region 7 with fail
      generalize hWW : World.alloc _ _ = W1
      have kx : At W1 wr.heap.size 39 #[.int .i64 1, .int .i64 2, .string ⟨#[120]⟩] := by rw [← hWW]; exact At.new' rfl
      have hbW : Below wr.heap.size wr W1 := by rw [← hWW]; exact below_al (Below.refl _ _) _
      have hO1 := Lib.hid (hO.out.up hbW)
      replace kE := At.bel kE hbW
      replace HB := below_then HB hbW
      clear hWW hbW e0 e1 e2 hO
      obtain ⟨x0, x1, x2⟩ := kx.three
      go_wp2_with fail
      refine (one_do (B := w.heap.size) (X := E) hO1.out HB.size (exS_ok 2) 1 2 ⟨#[120]⟩ (by decide) kE).mono ?_
      rintro e w6 ⟨rfl, hO6, kE6, hb6⟩
      have hc : (doS (exS 2) ⟨1, 2, ⟨#[120]⟩⟩).1 = 0 := ex_do2
      rw [hc]
      replace hO6 : Hid (One w.heap.size E w6 g (exS 3)) := Lib.hid hO6
      have HB6 := HB.trans hb6
      clear hc x0 x1 x2 kx hO1 kE HB hb6
      go_wp2_with fail
      go_roundg (3 - (2 + 1))
      case measure => have := hr.out; omega
      case rel => exact ⟨2 + 1, by omega, by go_num, Lib.hid rfl, hO6, kE6, HB6⟩
    · have hp : Hid (One w.heap.size E wr g (exS 3)) := hO
      have HA : Hid (∀ u, Below wr.heap.size wr u → Calls Tryz.prog 15 #[.pointer (some ⟨g, 0, none⟩)] u fun e w' => e = .returned (.tuple #[.int .i64 0, .int .i64 1, .int .i64 1]) ∧ Below u.heap.size u w') := Lib.hid fun u hb => by
        obtain ⟨p, h1, _⟩ := hO.out.up hb
        have := account_any (exS 3) (exS_ok 3) g p u h1
        rw [ex_acc.1, ex_acc.2.1, ex_acc.2.2] at this
        exact this
      have HM : Hid (∀ u, Below wr.heap.size wr u → Calls Tryz.prog 18 #[.pointer (some ⟨g, 0, none⟩)] u fun e w' => (∃ v, e = .returned v ∧ IsS [⟨#[121]⟩] v w') ∧ Below u.heap.size u w') := Lib.hid fun u hb => by
        obtain ⟨p, h1, _⟩ := hO.out.up hb
        have := missing_any (exS 3) (exS_ok 3) g p u h1
        rw [ex_miss] at this
        exact this.mono fun e w' ⟨⟨v, e1, e2⟩, e3⟩ => ⟨⟨v, e1, row_isS e2.out⟩, e3⟩
      clear hp
      go_wp2_with fail
      refine (HA.out _ (Below.refl _ _)).mono ?_
      rintro e w5 ⟨rfl, hb5⟩
      go_wp2_with fail
      refine (HM.out _ hb5).mono ?_
      rintro e w6 ⟨⟨v, rfl, hv⟩, hb6⟩
      have hb56 := below_then hb5 hb6
      clear HA HM hb5 hb6
      go_wp2_with fail
      generalize hWW : World.alloc _ _ = W7
      have hb7 : Below w6.heap.size w6 W7 := by rw [← hWW]; exact below_al (Below.refl _ _) _
      have ky : At W7 w6.heap.size 9 #[.string ⟨#[121]⟩] := by rw [← hWW]; exact At.new' rfl
      have hy : IsS [⟨#[121]⟩] (.slice (some ⟨w6.heap.size, 0, none⟩) 1 1) W7 := ⟨_, _, rfl, Nat.le_refl _, by decide, fun k hk => ⟨w6.heap.size, 0, rfl, ky.lt, fun j u hu => by
        have hk0 : k = 0 := by simpa using hk
        subst hk0
        have hj : j < 1 := (List.getElem?_eq_some_iff.1 hu).1
        obtain rfl : j = 0 := by omega
        rw [← hu]
        exact ky.c 0⟩⟩
      clear hWW
      refine (eqvS_any [⟨#[121]⟩] _ _ _ (by decide) (hv.up hb7) hy).mono ?_
      rintro e w8 ⟨rfl, hb8⟩
      have hb9 := below_then (below_then hb56 hb7) hb8
      have hO9 := Lib.hid (hO.out.up hb9)
      have kE9 := At.bel kE hb9
      have HB9 := below_then HB hb9
      clear hv hy ky hb7 hb8 hb56 hb9 hO kE HB
      go_wp2_with fail
      refine (one_do (B := w.heap.size) (X := E) hO9.out HB9.size (exS_ok 3) 1 5 ⟨#[109]⟩ (by decide) kE9).mono ?_
      rintro e wa ⟨rfl, hOa, kEa, hba⟩
      have hc : (doS (exS 3) ⟨1, 5, ⟨#[109]⟩⟩).1 = 24 := ex_do3
      rw [hc]
      replace hOa : Hid (One w.heap.size E wa g ex4) := Lib.hid hOa
      have HBa := HB9.trans hba
      clear hc hO9 kE9 HB9 hba
      go_wp2_with fail
      refine (one_do (B := w.heap.size) (X := E) hOa.out HBa.size (doS_ok _ (exS_ok 3) _ (by decide)) 2 2 ⟨#[121]⟩ (by decide) kEa).mono ?_
      rintro e wb ⟨rfl, hOb, kEb, hbb⟩
      have hc : (doS ex4 ⟨2, 2, ⟨#[121]⟩⟩).1 = 0 := ex_do4
      rw [hc]
      replace hOb : Hid (One w.heap.size E wb g ex5) := Lib.hid hOb
      have HBb := HBa.trans hbb
      clear hc hOa kEa HBa hbb
      go_wp2_with fail
      refine (one_do (B := w.heap.size) (X := E) hOb.out HBb.size (doS_ok _ (doS_ok _ (exS_ok 3) _ (by decide)) _ (by decide)) 3 5 ⟨#[109]⟩ (by decide) kEb).mono ?_
      rintro e wc ⟨rfl, hOc, kEc, hbc⟩
      have hc : (doS ex5 ⟨3, 5, ⟨#[109]⟩⟩).1 = 0 := ex_do5
      rw [hc]
      have HBc := HBb.trans hbc
      clear hc hOb kEb HBb hbc hOc kEc
      go_wp2_with fail
      go_ret
      exact ⟨rfl, HBc⟩

end Go.Proofs.YtpocmijfkjjboaaGreatDoor

/- site, plainly: what an entry does to the account, the entries, the state. -/
set_option linter.unusedVariables false
namespace Go.Proofs.YtpocmijfkjjboaaGreatDoor
open Go.ChangeShapes Go.WideShapes Go.ChangeAt Go.RowKit

theorem doS_err {s : St} {x : Ent} (h : (doS s x).1 ≠ 0) : (doS s x).2 = s := by
  unfold doS at h ⊢
  by_cases h1 : givenS s x = 0
  · rw [if_neg (not_not_intro h1)] at h ⊢
    by_cases h2 : (actS s x).1 = 0
    · rw [if_neg (not_not_intro h2)] at h
      exact absurd rfl h
    · rw [if_pos h2]
  · rw [if_pos h1]
theorem doS_yes {s : St} {x : Ent} (h : (doS s x).1 = 0) : givenS s x = 0 ∧ (actS s x).1 = 0 ∧ (doS s x).2 = withK (actS s x).2 x := by
  unfold doS at h ⊢
  by_cases h1 : givenS s x = 0
  · rw [if_neg (not_not_intro h1)] at h ⊢
    by_cases h2 : (actS s x).1 = 0
    · rw [if_neg (not_not_intro h2)]
      exact ⟨h1, h2, rfl⟩
    · rw [if_pos h2] at h
      exact absurd h h2
  · rw [if_pos h1] at h
    exact absurd h h1
theorem doS_kept {s : St} {x : Ent} (h : (doS s x).1 = 0) : (doS s x).2.kept = s.kept ++ [x] := by
  rw [(doS_yes h).2.2]
  show (actS s x).2.kept ++ [x] = _
  rw [actS_kept]
theorem actS_rest (s : St) (x : Ent) : (actS s x).2.tags = s.tags ∧ (actS s x).2.member = s.member := by
  unfold actS moveS checkS doneS pourS
  split
  · split <;> (try split) <;> exact ⟨rfl, rfl⟩
  split
  · split <;> (try split) <;> exact ⟨rfl, rfl⟩
  split
  · split <;> (try split) <;> exact ⟨rfl, rfl⟩
  split
  · split <;> (try split) <;> exact ⟨rfl, rfl⟩
  split
  · split <;> (try split) <;> exact ⟨rfl, rfl⟩
  · split <;> (try split) <;> exact ⟨rfl, rfl⟩
theorem doS_tags (s : St) (x : Ent) : (doS s x).2.tags = s.tags := by
  by_cases h : (doS s x).1 = 0
  · rw [(doS_yes h).2.2]
    exact (actS_rest s x).1
  · rw [doS_err h]
theorem given_pour {s : St} {x : Ent} (h : givenS s x = 0) : s.poured = false ∧ 1 ≤ x.kind ∧ x.kind ≤ 6 := by
  have hl := (given_lt h).2
  unfold logV at hl
  simp only [Bool.and_eq_true, List.all_cons, List.all_nil, Bool.and_true] at hl
  have he := hl.1.2
  unfold entOk at he
  simp only [Bool.and_eq_true, decide_eq_true_eq] at he
  refine ⟨?_, he.1.1.2, he.1.2⟩
  unfold givenS at h
  rw [if_neg (by rw [(given_lt (s := s) (x := x) (by unfold givenS; exact h)).2]; decide)] at h
  split at h
  · cases h
  split at h
  · cases h
  split at h
  · cases h
  · rename_i q; simpa using q
theorem doS_pour {s : St} {x : Ent} (h : (doS s x).1 = 0) : s.poured = false ∧ (doS s x).2.poured = decide (x.kind = 5) ∧ (x.kind = 5 → readyS s = true) := by
  obtain ⟨h1, h2, h3⟩ := doS_yes h
  obtain ⟨hp, k1, k6⟩ := given_pour h1
  refine ⟨hp, ?_⟩
  rw [h3]
  show (actS s x).2.poured = _ ∧ _
  by_cases k5 : x.kind = 5
  · have ha : actS s x = pourS s x.name := by unfold actS; rw [if_neg (by omega), if_neg (by omega), if_neg (by omega), if_neg (by omega), if_neg (by omega)]
    rw [ha] at h2 ⊢
    unfold pourS at h2 ⊢
    by_cases q1 : x.name ≠ s.member
    · rw [if_pos q1] at h2; cases h2
    · rw [if_neg q1] at h2 ⊢
      cases q2 : readyS s
      · rw [q2, if_pos rfl] at h2; cases h2
      · rw [if_neg (by decide)]
        exact ⟨by rw [decide_eq_true k5], fun _ => rfl⟩
  · refine ⟨?_, fun h => absurd h k5⟩
    rw [decide_eq_false k5, ← hp]
    unfold actS at h2 ⊢
    unfold moveS checkS doneS at h2 ⊢
    split
    · split <;> (try split) <;> rfl
    split
    · split <;> (try split) <;> rfl
    split
    · split <;> (try split) <;> rfl
    split
    · split <;> (try split) <;> rfl
    split
    · split <;> (try split) <;> rfl
    · omega
theorem miss_count : ∀ (ts : List ByteArray) (a : List Nat), a.length = ts.length → (∀ y ∈ a, y ≤ 2) → (missS ts a).length = a.count 0 + a.count 1
  | [], [], _, _ => rfl
  | [], _ :: _, h, _ => by simp at h
  | _ :: _, [], h, _ => by simp at h
  | t :: ts, y :: a, h, hle => by
    have ih := miss_count ts a (by simpa using h) (fun z hz => hle z (List.mem_cons_of_mem _ hz))
    have hy := hle y (List.mem_cons_self ..)
    unfold missS
    have hc : y = 0 ∨ y = 1 ∨ y = 2 := by omega
    rcases hc with rfl | rfl | rfl
    · rw [if_neg (by decide), List.length_cons, ih, List.count_cons_self, List.count_cons_of_ne (by decide)]; omega
    · rw [if_neg (by decide), List.length_cons, ih, List.count_cons_self, List.count_cons_of_ne (by decide)]; omega
    · rw [if_pos rfl, ih, List.count_cons_of_ne (by decide), List.count_cons_of_ne (by decide)]
theorem count3 : ∀ (a : List Nat), (∀ y ∈ a, y ≤ 2) → a.count 0 + a.count 1 + a.count 2 = a.length
  | [], _ => rfl
  | y :: a, hle => by
    have ih := count3 a (fun z hz => hle z (List.mem_cons_of_mem _ hz))
    have hy := hle y (List.mem_cons_self ..)
    have hc : y = 0 ∨ y = 1 ∨ y = 2 := by omega
    rcases hc with rfl | rfl | rfl
    · rw [List.count_cons_self, List.count_cons_of_ne (by decide), List.count_cons_of_ne (by decide), List.length_cons]; omega
    · rw [List.count_cons_self, List.count_cons_of_ne (by decide), List.count_cons_of_ne (by decide), List.length_cons]; omega
    · rw [List.count_cons_self, List.count_cons_of_ne (by decide), List.count_cons_of_ne (by decide), List.length_cons]; omega

end Go.Proofs.YtpocmijfkjjboaaGreatDoor

/- site's laws: what 'large' spares; slices of bundles among the arguments, opened. -/
set_option linter.unusedVariables false
set_option maxRecDepth 10000
namespace Go.Proofs.YtpocmijfkjjboaaGreatDoor
open Go.ChangeShapes Go.WideShapes Go.ChangeAt Go.RowKit Go.Deep Go.ChangeMaps

theorem large_no {l : List Bun} {m : ByteArray} {es : List Ent} (h : largeB l m es = false) : (∀ x ∈ l, x.tag.size ≤ 60 ∧ x.mark.size ≤ 60) ∧ m.size ≤ 60 ∧ es.length ≤ 25 ∧ ∀ x ∈ es, x.name.size ≤ 60 := by
  unfold largeB at h
  simp only [Bool.or_eq_false_iff, Bool.not_eq_false', decide_eq_false_iff_not] at h
  obtain ⟨⟨⟨h1, h2⟩, h3⟩, h4⟩ := h
  unfold shortB at h1
  unfold shortE at h4
  simp only [Bool.and_eq_true, List.all_eq_true, decide_eq_true_eq] at h1 h4
  exact ⟨h1.2, by omega, by omega, h4⟩

instance : Inhabited Bun := ⟨⟨⟨#[]⟩, ⟨#[]⟩, 0, 0⟩⟩
section
variable {H : Type} {enc : TypeId × Value → H}
theorem c_bun : Tryz.prog.cellsOf 73 = 4 := by kernel_rfl
theorem el_bun {W : World} (n : Nat) (cs : List Value) (y : DataW H × List MemPlace) (h : DataW.trod enc Tryz.prog W 0 (fun _ => true) true n 73 cs = some y) : ∃ x : Bun, cs = encB x := by
  obtain ⟨xs, k, _, _, hl, hxl, hf⟩ := DataW.trod_struct Tryz.underlying73 h
  rw [c_bun] at hl
  match cs, hl, xs, hxl with
  | [v0, v1, v2, v3], _, [y0, y1, y2, y3], _ =>
    have g0 := hf 0 _ rfl
    have g1 := hf 1 _ rfl
    have g2 := hf 2 _ rfl
    have g3 := hf 3 _ rfl
    simp [c_int, c_str] at g0 g1 g2 g3
    obtain ⟨a0, e0, -, -⟩ := DataW.trod_string Tryz.underlying9 g0
    obtain ⟨a1, e1, -, -⟩ := DataW.trod_string Tryz.underlying9 g1
    obtain ⟨a2, e2, -, -⟩ := DataW.trod_int Tryz.underlying3 g2
    obtain ⟨a3, e3, -, -⟩ := DataW.trod_int Tryz.underlying3 g3
    simp only [List.cons.injEq, and_true] at e0 e1 e2 e3
    exact ⟨⟨a0, a1, a2, a3⟩, by rw [e0, e1, e2, e3]; rfl⟩
theorem open_buns {W : World} {r : Reach} {b0 : Nat} {v : Value} {d : DataW H} {ps : List MemPlace} (hval : Value.okWide Tryz.prog W r b0 22 v) (hd : DataW.Trod enc Tryz.prog W 0 (fun _ => true) true 22 v d ps) : ∃ (l : List Bun) (ao : Option Addr) (cap : Nat), v = .slice ao l.length cap ∧ l.length ≤ cap ∧ cap ≤ 9223372036854775807 ∧ RowAt encB 4 W.heap.size W ao l ∧ ((ao = none ∧ l.length = 0 ∧ cap = 0) ∨ ∃ b off, ao = some ⟨b, off, none⟩) :=
  open_row encB 4 Tryz.underlying22 c_bun (by decide) encB_len el_bun hval hd
end

end Go.Proofs.YtpocmijfkjjboaaGreatDoor
