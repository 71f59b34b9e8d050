/- rows of bundles, entries and names in memory; rows that an object owns; frames; append at a step of a drawn region. -/
import Derived.Test.YtjlkbmaigcgnbaaDoorBJ00
import Derived.Deep.LoopGhost
import Derived.Deep.DeepCutAuto
import Derived.Deep.CutBlock
import Derived.Deep.OwnRows
import Derived.Maps.AppendAt
import Derived.Deep.AppendLies
import Derived.Deep.RegionLaw
set_option linter.unusedVariables false
namespace Go.Proofs.YtjlkbmaigcgnbaaDoor
open Go.ChangeShapes Go.WideShapes Go.ChangeAt Go.RowKit
structure Bun where
  tag : ByteArray
  mark : ByteArray
  count : Int
  mass : Int
structure Ent where
  day : Int
  kind : Int
  name : ByteArray
deriving instance DecidableEq for Ent
def encB (x : Bun) : List Value := [.string x.tag, .string x.mark, .int .i64 x.count, .int .i64 x.mass]
def encE (x : Ent) : List Value := [.int .i64 x.day, .int .i64 x.kind, .string x.name]
def encS (s : ByteArray) : List Value := [.string s]
def encN (n : Nat) : List Value := [.int .i64 (n : Int)]
def RowAt {α : Type} (enc : α → List Value) (sz : Nat) (B : Nat) (w : World) (ao : Option Addr) (l : List α) : Prop :=
  ∀ (k : Nat) (hk : k < l.length), ∃ b off, ao = some ⟨b, off, none⟩ ∧ b < B ∧ ∀ (j : Nat) (u : Value), (enc l[k])[j]? = some u → w.cell? ⟨b, off + k * sz + j, none⟩ = some u
section
variable {α : Type} {enc : α → List Value} {sz B : Nat} {w w' : World} {ao : Option Addr} {l : List α}
theorem RowAt.bel (h : RowAt enc sz B w ao l) (hB : B ≤ w.heap.size) (hb : Below w.heap.size w w') : RowAt enc sz B w' ao l := by
  intro k hk
  obtain ⟨b, off, e, hlt, hc⟩ := h k hk
  exact ⟨b, off, e, hlt, fun j u hu => (hb.cell (Nat.lt_of_lt_of_le hlt hB)).trans (hc j u hu)⟩
theorem RowAt.mono {C : Nat} (h : RowAt enc sz B w ao l) (hBC : B ≤ C) : RowAt enc sz C w ao l := by
  intro k hk
  obtain ⟨b, off, e, hlt, hc⟩ := h k hk
  exact ⟨b, off, e, Nat.lt_of_lt_of_le hlt hBC, hc⟩
theorem RowAt.nil (w : World) (ao : Option Addr) : RowAt enc sz B w ao [] := fun k hk => absurd hk (by simp)
end
theorem RowAt.bun {B : Nat} {w : World} {ao : Option Addr} {l : List Bun} (h : RowAt encB 4 B w ao l) (k : Nat) (hk : k < l.length) : ∃ b off, ao = some ⟨b, off, none⟩ ∧ w.cell? ⟨b, off + k * 4, none⟩ = some (.string l[k].tag) ∧ w.cell? ⟨b, off + k * 4 + 1, none⟩ = some (.string l[k].mark) ∧ w.cell? ⟨b, off + k * 4 + 2, none⟩ = some (.int .i64 l[k].count) ∧ w.cell? ⟨b, off + k * 4 + 3, none⟩ = some (.int .i64 l[k].mass) ∧ b < B := by
  obtain ⟨b, off, e, hlt, hc⟩ := h k hk
  exact ⟨b, off, e, hc 0 _ rfl, hc 1 _ rfl, hc 2 _ rfl, hc 3 _ rfl, hlt⟩
theorem RowAt.ent {B : Nat} {w : World} {ao : Option Addr} {l : List Ent} (h : RowAt encE 3 B w ao l) (k : Nat) (hk : k < l.length) : ∃ b off, ao = some ⟨b, off, none⟩ ∧ w.cell? ⟨b, off + k * 3, none⟩ = some (.int .i64 l[k].day) ∧ w.cell? ⟨b, off + k * 3 + 1, none⟩ = some (.int .i64 l[k].kind) ∧ w.cell? ⟨b, off + k * 3 + 2, none⟩ = some (.string l[k].name) ∧ b < B := by
  obtain ⟨b, off, e, hlt, hc⟩ := h k hk
  exact ⟨b, off, e, hc 0 _ rfl, hc 1 _ rfl, hc 2 _ rfl, hlt⟩
theorem RowAt.one {α : Type} {f : α → Value} {B : Nat} {w : World} {ao : Option Addr} {l : List α} (h : RowAt (fun x => [f x]) 1 B w ao l) (k : Nat) (hk : k < l.length) : ∃ b off, ao = some ⟨b, off, none⟩ ∧ w.cell? ⟨b, off + k, none⟩ = some (f l[k]) ∧ b < B := by
  obtain ⟨b, off, e, hlt, hc⟩ := h k hk
  have := hc 0 _ rfl
  rw [Nat.mul_one] at this
  exact ⟨b, off, e, this, hlt⟩
theorem At.three {w : World} {g : Nat} {t : TypeId} {x y z : Value} (h : At w g t #[x, y, z]) : w.cell? ⟨g, 0, none⟩ = some x ∧ w.cell? ⟨g, 1, none⟩ = some y ∧ w.cell? ⟨g, 2, none⟩ = some z := ⟨h.c 0, h.c 1, h.c 2⟩
theorem At.four {w : World} {g : Nat} {t : TypeId} {x y z u : Value} (h : At w g t #[x, y, z, u]) : w.cell? ⟨g, 0, none⟩ = some x ∧ w.cell? ⟨g, 1, none⟩ = some y ∧ w.cell? ⟨g, 2, none⟩ = some z ∧ w.cell? ⟨g, 3, none⟩ = some u := ⟨h.c 0, h.c 1, h.c 2, h.c 3⟩
def ix (ts : List ByteArray) (s : ByteArray) : Nat := ts.findIdx (fun x => decide (x = s))
def ixI (ts : List ByteArray) (s : ByteArray) : Int := if ix ts s < ts.length then (ix ts s : Int) else -1
theorem ix_here {ts : List ByteArray} {s : ByteArray} {k : Nat} (hk : k < ts.length) (h : ts[k] = s) (hb : ∀ (j : Nat) (hj : j < ts.length), j < k → ts[j] ≠ s) : ix ts s = k := by
  unfold ix
  rw [List.findIdx_eq hk]
  refine ⟨by simpa using h, fun j hj => by simpa using hb j (by omega) hj⟩
theorem ix_none {ts : List ByteArray} {s : ByteArray} (hb : ∀ (j : Nat) (hj : j < ts.length), ts[j] ≠ s) : ix ts s = ts.length := by
  unfold ix
  rw [List.findIdx_eq_length]
  intro x hx
  obtain ⟨j, hj, rfl⟩ := List.getElem_of_mem hx
  simpa using hb j hj
theorem str_eq {a b : ByteArray} (h : a = b) : (a.toList == b.toList) = true := by rw [h]; simp
theorem str_ne {a b : ByteArray} (h : a ≠ b) : (a.toList == b.toList) = false := by
  rw [beq_eq_false_iff_ne]
  intro e
  rw [Lib.toList_data, Lib.toList_data] at e
  apply h
  have e2 := congrArg List.toArray e
  simp only [Array.toArray_toList] at e2
  exact congrArg ByteArray.mk e2
def Row {α : Type} (w : World) (e : TypeId) (sz : Nat) (enc : α → List Value) (v : Value) (l : List α) : Prop := w.ownsRow 0 e sz v l.length (l.flatMap enc)
section
variable {α : Type} {w w' : World} {e : TypeId} {sz : Nat} {enc : α → List Value} {v : Value} {l : List α}
theorem flat_at (henc : ∀ x, (enc x).length = sz) : ∀ (l : List α) (k : Nat) (hk : k < l.length) (j : Nat), j < sz → (l.flatMap enc)[k * sz + j]? = (enc l[k])[j]?
  | x :: l, 0, _, j, hj => by
    rw [List.flatMap_cons, List.getElem?_append_left (by rw [henc]; omega), Nat.zero_mul, Nat.zero_add]
    rfl
  | x :: l, k + 1, hk, j, hj => by
    rw [List.flatMap_cons, List.getElem?_append_right (by rw [henc, Nat.succ_mul]; omega), henc, show (k + 1) * sz + j - sz = k * sz + j by rw [Nat.succ_mul]; omega]
    exact flat_at henc l k (by simpa using hk) j hj
theorem Row.view (h : Row w e sz enc v l) (henc : ∀ x, (enc x).length = sz) : ∃ ao cap, v = .slice ao l.length cap ∧ l.length ≤ cap ∧ cap ≤ 9223372036854775807 ∧ RowAt enc sz w.heap.size w ao l ∧ ((ao = none ∧ l.length = 0 ∧ cap = 0) ∨ ∃ g, ao = some ⟨g, 0, none⟩ ∧ v.ownBlock = some g) := by
  obtain ⟨hl, ⟨h1, h2⟩ | ⟨g, cap, cur, h1, h2, h3, h4, h5, h6, h7⟩⟩ := h
  · exact ⟨none, 0, by rw [h1, h2], by omega, by omega, fun k hk => absurd hk (by omega), .inl ⟨rfl, h2, rfl⟩⟩
  · refine ⟨some ⟨g, 0, none⟩, cap, h1, h4, by have : cap ≤ 2 ^ 63 - 1 := h5; omega, ?_, .inr ⟨g, rfl, by rw [h1]; rfl⟩⟩
    intro k hk
    refine ⟨g, 0, rfl, (Array.getElem?_eq_some_iff.1 h3).1, fun j u hu => ?_⟩
    have hj : j < sz := by rw [← henc l[k]]; exact (List.getElem?_eq_some_iff.1 hu).1
    have hc := cell_of_row w g (0 + k * sz + j) cur e (0, 0) h3
    rw [hc]
    have h8 := flat_at henc l k hk j hj
    rw [← h7, List.getElem?_take_of_lt, hu] at h8
    · rw [show 0 + k * sz + j = k * sz + j by omega, ← h8]
      simp
    · have : (k + 1) * sz ≤ l.length * sz := Nat.mul_le_mul_right sz hk
      rw [Nat.succ_mul] at this
      omega
theorem Row.keep (h : Row w e sz enc v l) (hb : ∀ b, v.ownBlock = some b → w'.heap[b]? = w.heap[b]?) : Row w' e sz enc v l := by
  obtain ⟨hl, h | ⟨g, cap, cur, h1, h2, h3, h4⟩⟩ := h
  · exact ⟨hl, .inl h⟩
  · exact ⟨hl, .inr ⟨g, cap, cur, h1, h2, (hb g (by rw [h1]; rfl)).trans h3, h4⟩⟩
theorem Row.lt (h : Row w e sz enc v l) {b : Nat} (hb : v.ownBlock = some b) : b < w.heap.size := by
  obtain ⟨hl, ⟨h1, h2⟩ | ⟨g, cap, cur, h1, h2, h3, h4⟩⟩ := h
  · rw [h1] at hb; cases hb
  · rw [h1] at hb
    injection hb with hb
    have hb : g = b := hb
    subst hb
    exact (Array.getElem?_eq_some_iff.1 h3).1
end
def Dj (a b : Option Nat) : Prop := ∀ x, a = some x → b = some x → False
theorem Dj.symm {a b : Option Nat} (h : Dj a b) : Dj b a := fun x h1 h2 => h x h2 h1
theorem Dj.ne {a : Nat} {b : Option Nat} (h : Dj (some a) b) : some a ≠ b := fun e => h a rfl e.symm
theorem Dj.up {a b b' : Option Nat} {n : Nat} (h : Dj a b) (ha : ∀ x, a = some x → x < n) (hb : b' = b ∨ b' = some n) : Dj a b' := by
  intro x h1 h2
  rcases hb with rfl | rfl
  · exact h x h1 h2
  · have := ha x h1
    injection h2 with h2
    omega
structure Frm (F : List (Option Nat)) (w w' : World) : Prop where
  os : w'.os = w.os
  tape : w'.tape = w.tape
  output : w'.output = w.output
  size : w.heap.size ≤ w'.heap.size
  block : ∀ k, k < w.heap.size → some k ∉ F → w'.heap[k]? = w.heap[k]?
section
variable {F F' : List (Option Nat)} {a w w' : World}
theorem Frm.of_below (h : Below w.heap.size w w') : Frm F w w' := ⟨h.os, h.tape, h.output, h.size, fun k hk _ => h.block k hk⟩
theorem Frm.of_grown {row : Option Nat} (h : w.grownBy w' row) (hr : row ∈ F ∨ row = none) : Frm F w w' := ⟨h.os, h.tape, h.output, h.size, fun k hk hn => h.block k hk (fun e => by
  rcases hr with h1 | h1
  · exact hn (e ▸ h1)
  · rw [h1] at e; cases e)⟩
theorem Frm.of_set {p : Addr} (hp : some p.block ∈ F) (u : Value) : Frm F w (w.setCell p u) := ⟨rfl, rfl, rfl, by simp [World.setCell], fun k _ hn => Below.heap_setCell w p u k (fun e => hn (e ▸ hp))⟩
theorem Frm.trans (h : Frm F a w) (k : Frm F' w w') (hF : ∀ x, some x ∈ F' → some x ∈ F ∨ a.heap.size ≤ x) : Frm F a w' :=
  ⟨k.os.trans h.os, k.tape.trans h.tape, k.output.trans h.output, Nat.le_trans h.size k.size, fun i hi hn => (k.block i (Nat.lt_of_lt_of_le hi h.size) (fun hi2 => by
    rcases hF i hi2 with q | q
    · exact hn q
    · omega)).trans (h.block i hi hn)⟩
theorem Frm.below {B : Nat} (h : Frm F w w') (hB : B ≤ w.heap.size) (hF : ∀ x, some x ∈ F → B ≤ x) : Below B w w' :=
  ⟨h.os, h.tape, h.output, h.size, fun k hk => h.block k (Nat.lt_of_lt_of_le hk hB) (fun e => by have := hF k e; omega)⟩
end
theorem infoStr : (Tryd.prog.info? 9).map (fun i => (i.zero, i.size, i.bytes)) = some (some (.string ⟨#[]⟩), 1, 16) := by kernel_rfl
theorem Row.at {α : Type} {w : World} {e : TypeId} {sz n cap : Nat} {enc : α → List Value} {ao : Option Addr} {l : List α} (h : Row w e sz enc (.slice ao n cap) l) (henc : ∀ x, (enc x).length = sz) : RowAt enc sz w.heap.size w ao l := by
  obtain ⟨ao', cap', e, _, _, h1, _⟩ := h.view henc
  injection e with e1 e2 e3
  rw [e1]
  exact h1
theorem encS_len (s : ByteArray) : (encS s).length = 1 := rfl
theorem encN_len (n : Nat) : (encN n).length = 1 := rfl
theorem encE_len (x : Ent) : (encE x).length = 3 := rfl
theorem encB_len (x : Bun) : (encB x).length = 4 := rfl
theorem own_slice {w : World} {base n : Nat} {e : TypeId} {sz : Nat} {v : Value} {xs : List Value} (h : w.ownsRow base e sz v n xs) : ∃ a cap, v = .slice a n cap := by
  obtain ⟨_, ⟨h1, h2⟩ | ⟨g, cap, cur, h1, _⟩⟩ := h
  · exact ⟨none, 0, by rw [h1, h2]⟩
  · exact ⟨_, cap, h1⟩
theorem isEmpty_len {α : Type} (l : List α) : l.isEmpty = decide (l.length = 0) := by cases l <;> simp
theorem flat_len {α : Type} {enc : α → List Value} {sz : Nat} (henc : ∀ x, (enc x).length = sz) : ∀ (l : List α), (l.flatMap enc).length = l.length * sz
  | [] => by simp
  | x :: l => by rw [List.flatMap_cons, List.length_append, henc, flat_len henc l, List.length_cons, Nat.succ_mul]; omega
def IsS (l : List ByteArray) (v : Value) (w : World) : Prop := ∃ a c, v = .slice a l.length c ∧ l.length ≤ c ∧ c ≤ 9223372036854775807 ∧ RowAt encS 1 w.heap.size w a l
def IsE (l : List Ent) (v : Value) (w : World) : Prop := ∃ a c, v = .slice a l.length c ∧ l.length ≤ c ∧ c ≤ 9223372036854775807 ∧ RowAt encE 3 w.heap.size w a l
theorem IsS.up {l : List ByteArray} {v : Value} {w w' : World} (hb : Below w.heap.size w w') (h : IsS l v w) : IsS l v w' := by
  obtain ⟨a, c, h1, h2, h3, h4⟩ := h
  exact ⟨a, c, h1, h2, h3, (h4.bel (Nat.le_refl _) hb).mono hb.size⟩
theorem IsE.up {l : List Ent} {v : Value} {w w' : World} (hb : Below w.heap.size w w') (h : IsE l v w) : IsE l v w' := by
  obtain ⟨a, c, h1, h2, h3, h4⟩ := h
  exact ⟨a, c, h1, h2, h3, (h4.bel (Nat.le_refl _) hb).mono hb.size⟩
theorem cell_up {w w' : World} {a : Addr} {v : Value} (hb : Below w.heap.size w w') (h : w.cell? a = some v) : w'.cell? a = some v := (hb.cell (block_lt_of_cell h)).trans h
theorem drew_bel (w : World) : Below w.heap.size w w.drew := below_drew (Below.refl _ _)
theorem infoEnt : (Tryd.prog.info? 58).map (fun i => (i.zero, i.size, i.bytes)) = some (some (.agg #[.int .i64 0, .int .i64 0, .string ⟨#[]⟩]), 3, 32) := by kernel_rfl
theorem grown_after {w w4 w5 : World} {row : Option Nat} (hb : Below w.heap.size w w4) (hg : w4.grownBy w5 row) : w.grownBy w5 row :=
  ⟨hg.os.trans hb.os, hg.tape.trans hb.tape, hg.output.trans hb.output, Nat.le_trans hb.size hg.size, fun k hk hn => (hg.block k (Nat.lt_of_lt_of_le hk hb.size) hn).trans (hb.block k hk)⟩
theorem three_new {w1 : World} {g : Nat} {t : TypeId} {x y z : Value} (h : At w1 g t #[x, y, z]) : ∀ j u, [x, y, z][j]? = some u → w1.cell? ((⟨g, 0, none⟩ : Addr).add j) = some u := by
  intro j u hj
  have : (⟨g, 0, none⟩ : Addr).add j = ⟨g, j, none⟩ := by cases j <;> simp [Addr.add]
  rw [this, h.c j, ← hj]
  simp
theorem step_append_at {P : Program} (w : World) {ops : Array Oper} {o : Oper} {a : Act} {K : Act → World → Prop} {Q : Exit → Act → World → Prop} {E : Prop} (hgd : o.guard = none) (s x : Operand) (t : TypeId)
    (ho : o.op = .call { callee := .builtin .append, args := #[s, x], argTypes := #[t, t] })
    (base : Nat) (e : TypeId) (i : TypeInfo) (z : Value) (size bytes : Nat) (ht : P.underlying t = some (.slice e)) (hi : P.info? e = some i) (hz : i.zero = some z)
    (hsize : i.size = size) (hby : i.bytes = bytes) (hzs : z.cells.size = size) (hsz : 0 < size)
    (v : Value) (n : Nat) (xs : List Value) (hs : a.eval s = v) (hown : w.ownsRow base e size v n xs)
    (ad : Addr) (m c : Nat) (news : List Value) (hx : a.eval x = .slice (some ad) m c) (hl : news.length = m * size) (hnews : ∀ j u, news[j]? = some u → w.cell? (ad.add j) = some u) (h1 : ∀ u ∈ news, u.oneCell' = true)
    (h63 : n + m ≤ maxLen) (hbytes : (n + m) * bytes ≤ 140737488355328) (hbase : base ≤ w.heap.size)
    (h : ∀ ao cap w', w'.ownsRow base e size (.slice ao (n + m) cap) (n + m) (xs ++ news) → w.grownBy w' v.ownBlock → ((Value.slice ao (n + m) cap).ownBlock = v.ownBlock ∨ (Value.slice ao (n + m) cap).ownBlock = some w.heap.size) → K (a.put o.dst (.slice ao (n + m) cap)) w') :
    if Region.wanted o (yielded ops a.tmps) = true then Oper.wp P o a w K Q else E := by
  have hw : Region.wanted o (yielded ops a.tmps) = true := by simp [Region.wanted, hgd]
  rw [if_pos hw]
  obtain ⟨v', w', hr, h2, h3, _, h5⟩ := run_append_own_at (P := P) w base t o.type e i z size bytes ht hi hz hsize hby hzs hsz v n xs hown ad m c news hl hnews h1 h63 hbytes hbase
  obtain ⟨ao, cap, rfl⟩ := own_slice h2
  unfold Oper.wp execOp
  simp only [ho, resolve, invoke, builtin, Sem.run_bind, Sem.run_pure, Result.andThen_ok, List.map_toArray, List.map_cons, List.map_nil, hs, hx, hr]
  exact h ao cap w' h2 h3 h5
theorem at_grown {w w' : World} {g : Nat} {t : TypeId} {cs : Array Value} {row : Option Nat} (h : At w g t cs) (hg : w.grownBy w' row) (hr : row ≠ some g) : At w' g t cs := (hg.block g h.lt (fun e => hr e.symm)).trans h
theorem below_grown {a w w' : World} {row : Option Nat} (h : Below a.heap.size a w) (hg : w.grownBy w' row) (hr : ∀ b, row = some b → a.heap.size ≤ b) : Below a.heap.size a w' :=
  ⟨hg.os.trans h.os, hg.tape.trans h.tape, hg.output.trans h.output, Nat.le_trans h.size hg.size, fun k hk => (hg.block k (Nat.lt_of_lt_of_le hk h.size) (fun e => by have := hr k e.symm; omega)).trans (h.block k hk)⟩
theorem own_lt {w : World} {base n : Nat} {e : TypeId} {sz : Nat} {v : Value} {xs : List Value} (h : w.ownsRow base e sz v n xs) {b : Nat} (hb : v.ownBlock = some b) : b < w.heap.size ∧ base ≤ b := by
  obtain ⟨_, ⟨q, _⟩ | ⟨g, cap, cur, q1, q2, q3, _⟩⟩ := h
  · rw [q] at hb; cases hb
  · rw [q1] at hb
    have hb : some g = some b := hb
    injection hb with hb
    subst hb
    exact ⟨(Array.getElem?_eq_some_iff.1 q3).1, q2⟩
theorem own_weak {w : World} {base base' n : Nat} {e : TypeId} {sz : Nat} {v : Value} {xs : List Value} (h : w.ownsRow base e sz v n xs) (hb : base' ≤ base) : w.ownsRow base' e sz v n xs :=
  ⟨h.1, h.2.imp id fun ⟨g, cap, cur, h1, h2, h3⟩ => ⟨g, cap, cur, h1, Nat.le_trans hb h2, h3⟩⟩
theorem World.ownsRow_up {w w' : World} {base n : Nat} {e : TypeId} {sz : Nat} {v : Value} {xs : List Value} (h : w.ownsRow base e sz v n xs) (hb : Below w.heap.size w w') : w'.ownsRow base e sz v n xs :=
  ⟨h.1, h.2.imp id fun ⟨g, cap, cur, h1, h2, h3, h4⟩ => ⟨g, cap, cur, h1, h2, (hb.block g (Array.getElem?_eq_some_iff.1 h3).1).trans h3, h4⟩⟩
end Go.Proofs.YtjlkbmaigcgnbaaDoor
