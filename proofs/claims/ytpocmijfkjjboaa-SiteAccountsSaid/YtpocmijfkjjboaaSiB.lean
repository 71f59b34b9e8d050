/- site: rows of bundles, entries and names in memory; the reference's Find and Short. -/
import Derived.Test.YtpocmijfkjjboaaStA
import Derived.Deep.LoopGhost
import Derived.Deep.DeepCutAuto
import Derived.Deep.CutBlock
set_option linter.unusedVariables false
namespace Go.Proofs.Ytpocmijfkjjboaa
open Go.ChangeShapes Go.WideShapes Go.ChangeAt Go.RowKit

/-- A bundle; an entry. -/
structure Bun where
  tag : ByteArray
  mark : ByteArray
  count : Int
  mass : Int
structure Ent where
  day : Int
  kind : Int
  name : ByteArray
deriving instance DecidableEq for Ent
def encB (x : Bun) : List Value := [.string x.tag, .string x.mark, .int .i64 x.count, .int .i64 x.mass]
def encE (x : Ent) : List Value := [.int .i64 x.day, .int .i64 x.kind, .string x.name]
def encS (s : ByteArray) : List Value := [.string s]
def encN (n : Nat) : List Value := [.int .i64 (n : Int)]
/-- A slice's cells, in a block below B. -/
def RowAt {α : Type} (enc : α → List Value) (sz : Nat) (B : Nat) (w : World) (ao : Option Addr) (l : List α) : Prop :=
  ∀ (k : Nat) (hk : k < l.length), ∃ b off, ao = some ⟨b, off, none⟩ ∧ b < B ∧ ∀ (j : Nat) (u : Value), (enc l[k])[j]? = some u → w.cell? ⟨b, off + k * sz + j, none⟩ = some u
section
variable {α : Type} {enc : α → List Value} {sz B : Nat} {w w' : World} {ao : Option Addr} {l : List α}
theorem RowAt.bel (h : RowAt enc sz B w ao l) (hB : B ≤ w.heap.size) (hb : Below w.heap.size w w') : RowAt enc sz B w' ao l := by
  intro k hk
  obtain ⟨b, off, e, hlt, hc⟩ := h k hk
  exact ⟨b, off, e, hlt, fun j u hu => (hb.cell (Nat.lt_of_lt_of_le hlt hB)).trans (hc j u hu)⟩
theorem RowAt.mono {C : Nat} (h : RowAt enc sz B w ao l) (hBC : B ≤ C) : RowAt enc sz C w ao l := by
  intro k hk
  obtain ⟨b, off, e, hlt, hc⟩ := h k hk
  exact ⟨b, off, e, Nat.lt_of_lt_of_le hlt hBC, hc⟩
theorem RowAt.nil (w : World) (ao : Option Addr) : RowAt enc sz B w ao [] := fun k hk => absurd hk (by simp)
end
theorem RowAt.bun {B : Nat} {w : World} {ao : Option Addr} {l : List Bun} (h : RowAt encB 4 B w ao l) (k : Nat) (hk : k < l.length) : ∃ b off, ao = some ⟨b, off, none⟩ ∧ w.cell? ⟨b, off + k * 4, none⟩ = some (.string l[k].tag) ∧ w.cell? ⟨b, off + k * 4 + 1, none⟩ = some (.string l[k].mark) ∧ w.cell? ⟨b, off + k * 4 + 2, none⟩ = some (.int .i64 l[k].count) ∧ w.cell? ⟨b, off + k * 4 + 3, none⟩ = some (.int .i64 l[k].mass) ∧ b < B := by
  obtain ⟨b, off, e, hlt, hc⟩ := h k hk
  exact ⟨b, off, e, hc 0 _ rfl, hc 1 _ rfl, hc 2 _ rfl, hc 3 _ rfl, hlt⟩
theorem RowAt.ent {B : Nat} {w : World} {ao : Option Addr} {l : List Ent} (h : RowAt encE 3 B w ao l) (k : Nat) (hk : k < l.length) : ∃ b off, ao = some ⟨b, off, none⟩ ∧ w.cell? ⟨b, off + k * 3, none⟩ = some (.int .i64 l[k].day) ∧ w.cell? ⟨b, off + k * 3 + 1, none⟩ = some (.int .i64 l[k].kind) ∧ w.cell? ⟨b, off + k * 3 + 2, none⟩ = some (.string l[k].name) ∧ b < B := by
  obtain ⟨b, off, e, hlt, hc⟩ := h k hk
  exact ⟨b, off, e, hc 0 _ rfl, hc 1 _ rfl, hc 2 _ rfl, hlt⟩
theorem RowAt.one {α : Type} {f : α → Value} {B : Nat} {w : World} {ao : Option Addr} {l : List α} (h : RowAt (fun x => [f x]) 1 B w ao l) (k : Nat) (hk : k < l.length) : ∃ b off, ao = some ⟨b, off, none⟩ ∧ w.cell? ⟨b, off + k, none⟩ = some (f l[k]) ∧ b < B := by
  obtain ⟨b, off, e, hlt, hc⟩ := h k hk
  have := hc 0 _ rfl
  rw [Nat.mul_one] at this
  exact ⟨b, off, e, this, hlt⟩
theorem At.three {w : World} {g : Nat} {t : TypeId} {x y z : Value} (h : At w g t #[x, y, z]) : w.cell? ⟨g, 0, none⟩ = some x ∧ w.cell? ⟨g, 1, none⟩ = some y ∧ w.cell? ⟨g, 2, none⟩ = some z := ⟨h.c 0, h.c 1, h.c 2⟩
theorem At.four {w : World} {g : Nat} {t : TypeId} {x y z u : Value} (h : At w g t #[x, y, z, u]) : w.cell? ⟨g, 0, none⟩ = some x ∧ w.cell? ⟨g, 1, none⟩ = some y ∧ w.cell? ⟨g, 2, none⟩ = some z ∧ w.cell? ⟨g, 3, none⟩ = some u := ⟨h.c 0, h.c 1, h.c 2, h.c 3⟩

/-- Where a name is found first. -/
def ix (ts : List ByteArray) (s : ByteArray) : Nat := ts.findIdx (fun x => decide (x = s))
def ixI (ts : List ByteArray) (s : ByteArray) : Int := if ix ts s < ts.length then (ix ts s : Int) else -1
theorem ix_here {ts : List ByteArray} {s : ByteArray} {k : Nat} (hk : k < ts.length) (h : ts[k] = s) (hb : ∀ (j : Nat) (hj : j < ts.length), j < k → ts[j] ≠ s) : ix ts s = k := by
  unfold ix
  rw [List.findIdx_eq hk]
  refine ⟨by simpa using h, fun j hj => by simpa using hb j (by omega) hj⟩
theorem ix_none {ts : List ByteArray} {s : ByteArray} (hb : ∀ (j : Nat) (hj : j < ts.length), ts[j] ≠ s) : ix ts s = ts.length := by
  unfold ix
  rw [List.findIdx_eq_length]
  intro x hx
  obtain ⟨j, hj, rfl⟩ := List.getElem_of_mem hx
  simpa using hb j hj
theorem str_eq {a b : ByteArray} (h : a = b) : (a.toList == b.toList) = true := by rw [h]; simp
theorem str_ne {a b : ByteArray} (h : a ≠ b) : (a.toList == b.toList) = false := by
  rw [beq_eq_false_iff_ne]
  intro e
  rw [Lib.toList_data, Lib.toList_data] at e
  apply h
  have e2 := congrArg List.toArray e
  simp only [Array.toArray_toList] at e2
  exact congrArg ByteArray.mk e2

set_option maxRecDepth 100000 in
set_option maxHeartbeats 1000000 in
theorem find36_any (l : List Bun) (tag : ByteArray) (ao : Option Addr) (cap : Nat) (hl : l.length ≤ cap) (hn : l.length ≤ 1000000) (B : Nat) (w : World) (ha : Hid (RowAt encB 4 B w ao l)) :
    Calls Try.prog 38 #[.slice ao l.length cap, .string tag] w fun e w' => e = .returned (.int .i64 (ixI (l.map (·.tag)) tag)) ∧ w = w' := by
  obtain ⟨R, hR⟩ : ∃ R, ixI (l.map (·.tag)) tag = R := ⟨_, rfl⟩
  rw [hR]
  replace hR := Lib.hid hR
  obtain ⟨n, hn'⟩ : ∃ n, l.length = n := ⟨_, rfl⟩
  rw [hn'] at hl hn ⊢
  replace hn' := Lib.hid hn'
  go_enter Try.func38, Try.ntmps38
  go_wp2_with fail
  go_loopg [5] n (fun g i wr => ∃ k : Nat, k ≤ n ∧ i = .int .i64 (k : Int) ∧ Hid (g = n - k ∧ ∀ (j : Nat) (hj : j < (l.map (·.tag)).length), j < k → (l.map (·.tag))[j] ≠ tag) ∧ w = wr)
  case atStart => exact ⟨0, Nat.zero_le _, rfl, Lib.hid ⟨rfl, fun j _ h => absurd h (Nat.not_lt_zero _)⟩, rfl⟩
  case round =>
    obtain ⟨k, hk, rfl, hr, rfl⟩ := hrel
    by_cases hlt : k < n
    · have hkl : Hid (k < l.length) := Lib.hid (by rw [hn'.out]; exact hlt)
      have hkt : Hid (k < (l.map (·.tag)).length) := Lib.hid (by rw [List.length_map]; exact hkl.out)
      obtain ⟨b, off, rfl, c0, c1, c2, c3, hb⟩ := ha.out.bun k hkl.out
      have hx : Hid ((l.map (·.tag))[k]'hkt.out = (l[k]'hkl.out).tag) := Lib.hid (List.getElem_map ..)
      generalize (l[k]'hkl.out).tag = x at c0 hx
      clear c1 c2 c3 hb
      by_cases he : x = tag
      · have hE : Hid (R = (k : Int)) := Lib.hid (by
          have := ix_here hkt.out (hx.out.trans he) hr.out.2
          rw [← hR.out]
          unfold ixI
          rw [this, if_pos hkt.out])
        have es := str_eq he
        clear he
        go_wp2_with fail
        go_ret
        exact ⟨by rw [hE.out]; rfl, rfl⟩
      · have es := str_ne he
        replace he := Lib.hid he
        go_wp2_with fail
        go_roundg (n - (k + 1))
        case measure => have := hr.out.1; omega
        case rel =>
          refine ⟨k + 1, by omega, by go_num, Lib.hid ⟨rfl, ?_⟩, rfl⟩
          intro j hj hjk
          by_cases hj2 : j = k
          · subst hj2
            rw [hx.out]
            exact he.out
          · exact hr.out.2 j hj (by omega)
    · have hE : Hid (R = -1) := Lib.hid (by
        have h0 := hn'.out
        have := ix_none (ts := l.map (·.tag)) (s := tag) (fun j hj => hr.out.2 j hj (by rw [List.length_map] at hj; omega))
        rw [← hR.out]
        unfold ixI
        rw [this, if_neg (by omega)])
      go_wp2_with fail
      go_ret
      exact ⟨by rw [hE.out]; rfl, rfl⟩

end Go.Proofs.Ytpocmijfkjjboaa
