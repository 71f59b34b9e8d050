/- source: a detail among a law's arguments, opened. -/
import Derived.Test.YtccakklnbhcbdaaGreatDoorSwD
import Derived.Deep.Slices
import Derived.WideShapes
import Derived.ChangeArms
import Derived.ProofKit
set_option linter.unusedVariables false
set_option maxRecDepth 10000
namespace Go.Proofs.YtccakklnbhcbdaaGreatDoor
open Go.ChangeShapes Go.WideShapes Go.ChangeAt Go.RowKit Go.Deep Go.ChangeMaps

section
variable {H : Type} {enc : TypeId × Value → H}
theorem trod_sl {α : Type} [Inhabited α] (encA : α → List Value) (sz : Nat) (Pr : α → Prop) {W : World} {t e : TypeId} {fuel : Nat} {cs : List Value} {y : DataW H × List MemPlace} (ht : Tryz.prog.underlying t = some (.slice e)) (ce : Tryz.prog.cellsOf e = sz) (h0 : 0 < sz) (henc : ∀ x, (encA x).length = sz)
    (hel : ∀ n cs y, DataW.trod enc Tryz.prog W 0 (fun _ => true) true n e cs = some y → ∃ x : α, cs = encA x ∧ Pr x)
    (hd : DataW.trod enc Tryz.prog W 0 (fun _ => true) true fuel t cs = some y) : ∃ (l : List α) (v : Value), cs = [v] ∧ Sl W sz encA v l ∧ (∀ x ∈ l, Pr x) ∧ ((l.length = 0) ∨ ∃ el sp, y.1 = .slice el sp ∧ l.length = el.length) := by
  rcases open_slice ht hd with ⟨hc, _⟩ | ⟨a, len, cap, m, n, D, Pl, hc, _, hl, hm, hmm, hy, hx⟩
  · exact ⟨[], .slice none 0 0, hc, ⟨none, 0, rfl, Nat.le_refl _, by omega, RowAt.nil _ _⟩, fun x h => (by cases h), .inl rfl⟩
  · simp only [if_true] at hmm
    subst hmm
    have hm' : m ≤ 9223372036854775807 := hm
    have each : ∀ i, i < len → ∃ x : α, Pr x ∧ ∀ j u, (encA x)[j]? = some u → W.cell? ((a.add (i * sz)).add j) = some u := by
      intro i hi
      obtain ⟨cs', h1, h2⟩ := hx i (by omega)
      rw [ce] at h1
      obtain ⟨_, hlen, hcell⟩ := World.cells?_some h1
      obtain ⟨x, rfl, hp⟩ := hel _ _ _ h2
      refine ⟨x, hp, fun j u hu => ?_⟩
      have hj : j < sz := by rw [← henc x]; exact (List.getElem?_eq_some_iff.1 hu).1
      rw [hcell j (by omega), ← hu]
    obtain ⟨q, hq⟩ := choose_lt each
    refine ⟨(List.range len).map q, .slice (some a) len m, hc, ⟨some a, m, by simp, by simpa using hl, hm', ?_⟩, fun x hx => ?_, .inr ⟨_, _, by rw [hy], by simp⟩⟩
    · intro k hk
      have hk' : k < len := by simpa using hk
      have hne : ∀ i, 0 < (encA (q i)).length := fun i => by rw [henc]; exact h0
      have hsp : a.spot = none := by
        have hc := (hq 0 (by omega)).2 0 _ (List.getElem?_eq_getElem (hne 0))
        rw [Nat.zero_mul] at hc
        have hc : W.cell? a = some _ := hc
        unfold World.cell? at hc
        split at hc
        · split at hc
          · cases hc
          · rename_i h; simpa using h
        · cases hc
      obtain ⟨b, off, sp⟩ := a
      have hsp : sp = none := hsp
      subst hsp
      have ad : ∀ i, (⟨b, off, none⟩ : Addr).add i = ⟨b, off + i, none⟩ := fun i => by cases i <;> simp [Addr.add]
      have hc := (hq k hk').2
      have hb : b < W.heap.size := by
        have := hc 0 _ (List.getElem?_eq_getElem (hne k))
        rw [ad] at this
        exact block_lt_of_cell (show W.cell? ⟨b, off + k * sz, none⟩ = some _ from this)
      refine ⟨b, off, rfl, hb, fun j u hu => ?_⟩
      have e : ((List.range len).map q)[k] = q k := by simp
      rw [e] at hu
      have := hc j u hu
      rw [add_add, ad, ← Nat.add_assoc] at this
      exact this
    · obtain ⟨i, hi, rfl⟩ := List.mem_map.1 hx
      exact (hq i (List.mem_range.1 hi)).1
theorem c_int : Tryz.prog.cellsOf 3 = 1 := by kernel_rfl
theorem c_str : Tryz.prog.cellsOf 9 = 1 := by kernel_rfl
theorem c_pt : Tryz.prog.cellsOf 58 = 3 := by kernel_rfl
theorem c_tn : Tryz.prog.cellsOf 79 = 2 := by kernel_rfl
theorem c_bx : Tryz.prog.cellsOf 60 = 6 := by kernel_rfl
theorem c_br : Tryz.prog.cellsOf 56 = 5 := by kernel_rfl
theorem c_rn : Tryz.prog.cellsOf 81 = 10 := by kernel_rfl
theorem c_jt : Tryz.prog.cellsOf 84 = 2 := by kernel_rfl
theorem c_sp : Tryz.prog.cellsOf 86 = 2 := by kernel_rfl
theorem c_dm : Tryz.prog.cellsOf 63 = 8 := by kernel_rfl
theorem c_rl : Tryz.prog.cellsOf 32 = 9 := by kernel_rfl
theorem c_sd : Tryz.prog.cellsOf 24 = 2 := by kernel_rfl
theorem c_mb : Tryz.prog.cellsOf 26 = 6 := by kernel_rfl
theorem c_dt : Tryz.prog.cellsOf 34 = 19 := by kernel_rfl
theorem c_ds : Tryz.prog.cellsOf 54 = 1 := by kernel_rfl
theorem c_ss : Tryz.prog.cellsOf 61 = 1 := by kernel_rfl
theorem c_bs : Tryz.prog.cellsOf 22 = 1 := by kernel_rfl
theorem c_rs : Tryz.prog.cellsOf 27 = 1 := by kernel_rfl
theorem c_us : Tryz.prog.cellsOf 28 = 1 := by kernel_rfl
theorem c_js : Tryz.prog.cellsOf 29 = 1 := by kernel_rfl
theorem c_ms : Tryz.prog.cellsOf 30 = 1 := by kernel_rfl
section
variable {W : World} {n : Nat} {cs : List Value} {y : DataW H × List MemPlace}
abbrev TR (enc : TypeId × Value → H) (W : World) (n : Nat) (t : TypeId) (cs : List Value) (y : DataW H × List MemPlace) : Prop := DataW.trod enc Tryz.prog W 0 (fun _ => true) true n t cs = some y
theorem el_z (h : TR enc W n 3 cs y) : ∃ x : Int, cs = encZ x ∧ True := by
  obtain ⟨a, e, -, -⟩ := DataW.trod_int Tryz.underlying3 h
  exact ⟨a, e, trivial⟩
theorem el_s (h : TR enc W n 9 cs y) : ∃ x : List UInt8, cs = [.string ⟨x.toArray⟩] := by
  obtain ⟨a, e, -, -⟩ := DataW.trod_string Tryz.underlying9 h
  exact ⟨by_ a, e⟩
theorem el_pt (h : TR enc W n 58 cs y) : ∃ x : List Int, cs = encK 3 x ∧ x.length = 3 := by
  obtain ⟨xs, k, _, _, hl, hxl, hf⟩ := DataW.trod_struct Tryz.underlying58 h
  rw [c_pt] at hl
  match cs, hl, xs, hxl with
  | [v0, v1, v2], _, [y0, y1, y2], _ =>
    have g0 := hf 0 _ rfl
    have g1 := hf 1 _ rfl
    have g2 := hf 2 _ rfl
    simp [c_int] at g0 g1 g2
    obtain ⟨a0, e0, -, -⟩ := DataW.trod_int Tryz.underlying3 g0
    simp only [List.cons.injEq, and_true] at e0
    subst e0
    obtain ⟨a1, e1, -, -⟩ := DataW.trod_int Tryz.underlying3 g1
    simp only [List.cons.injEq, and_true] at e1
    subst e1
    obtain ⟨a2, e2, -, -⟩ := DataW.trod_int Tryz.underlying3 g2
    simp only [List.cons.injEq, and_true] at e2
    subst e2
    exact ⟨[a0, a1, a2], by simp [encK, List.range, List.range.loop], rfl⟩
theorem el_tn (h : TR enc W n 79 cs y) : ∃ x : List Int, cs = encK 2 x ∧ x.length = 2 := by
  obtain ⟨xs, k, _, _, hl, hxl, hf⟩ := DataW.trod_struct Tryz.underlying79 h
  rw [c_tn] at hl
  match cs, hl, xs, hxl with
  | [v0, v1], _, [y0, y1], _ =>
    have g0 := hf 0 _ rfl
    have g1 := hf 1 _ rfl
    simp [c_int] at g0 g1
    obtain ⟨a0, e0, -, -⟩ := DataW.trod_int Tryz.underlying3 g0
    simp only [List.cons.injEq, and_true] at e0
    subst e0
    obtain ⟨a1, e1, -, -⟩ := DataW.trod_int Tryz.underlying3 g1
    simp only [List.cons.injEq, and_true] at e1
    subst e1
    exact ⟨[a0, a1], by simp [encK, List.range, List.range.loop], rfl⟩
theorem el_jt (h : TR enc W n 84 cs y) : ∃ x : List Int, cs = encK 2 x ∧ x.length = 2 := by
  obtain ⟨xs, k, _, _, hl, hxl, hf⟩ := DataW.trod_struct Tryz.underlying84 h
  rw [c_jt] at hl
  match cs, hl, xs, hxl with
  | [v0, v1], _, [y0, y1], _ =>
    have g0 := hf 0 _ rfl
    have g1 := hf 1 _ rfl
    simp [c_int] at g0 g1
    obtain ⟨a0, e0, -, -⟩ := DataW.trod_int Tryz.underlying3 g0
    simp only [List.cons.injEq, and_true] at e0
    subst e0
    obtain ⟨a1, e1, -, -⟩ := DataW.trod_int Tryz.underlying3 g1
    simp only [List.cons.injEq, and_true] at e1
    subst e1
    exact ⟨[a0, a1], by simp [encK, List.range, List.range.loop], rfl⟩
theorem el_sp (h : TR enc W n 86 cs y) : ∃ x : List Int, cs = encK 2 x ∧ x.length = 2 := by
  obtain ⟨xs, k, _, _, hl, hxl, hf⟩ := DataW.trod_struct Tryz.underlying86 h
  rw [c_sp] at hl
  match cs, hl, xs, hxl with
  | [v0, v1], _, [y0, y1], _ =>
    have g0 := hf 0 _ rfl
    have g1 := hf 1 _ rfl
    simp [c_int] at g0 g1
    obtain ⟨a0, e0, -, -⟩ := DataW.trod_int Tryz.underlying3 g0
    simp only [List.cons.injEq, and_true] at e0
    subst e0
    obtain ⟨a1, e1, -, -⟩ := DataW.trod_int Tryz.underlying3 g1
    simp only [List.cons.injEq, and_true] at e1
    subst e1
    exact ⟨[a0, a1], by simp [encK, List.range, List.range.loop], rfl⟩
theorem el_rl (h : TR enc W n 32 cs y) : ∃ x : List Int, cs = encK 9 x ∧ x.length = 9 := by
  obtain ⟨xs, k, _, _, hl, hxl, hf⟩ := DataW.trod_struct Tryz.underlying32 h
  rw [c_rl] at hl
  match cs, hl, xs, hxl with
  | [v0, v1, v2, v3, v4, v5, v6, v7, v8], _, [y0, y1, y2, y3, y4, y5, y6, y7, y8], _ =>
    have g0 := hf 0 _ rfl
    have g1 := hf 1 _ rfl
    have g2 := hf 2 _ rfl
    have g3 := hf 3 _ rfl
    have g4 := hf 4 _ rfl
    have g5 := hf 5 _ rfl
    have g6 := hf 6 _ rfl
    have g7 := hf 7 _ rfl
    have g8 := hf 8 _ rfl
    simp [c_int] at g0 g1 g2 g3 g4 g5 g6 g7 g8
    obtain ⟨a0, e0, -, -⟩ := DataW.trod_int Tryz.underlying3 g0
    simp only [List.cons.injEq, and_true] at e0
    subst e0
    obtain ⟨a1, e1, -, -⟩ := DataW.trod_int Tryz.underlying3 g1
    simp only [List.cons.injEq, and_true] at e1
    subst e1
    obtain ⟨a2, e2, -, -⟩ := DataW.trod_int Tryz.underlying3 g2
    simp only [List.cons.injEq, and_true] at e2
    subst e2
    obtain ⟨a3, e3, -, -⟩ := DataW.trod_int Tryz.underlying3 g3
    simp only [List.cons.injEq, and_true] at e3
    subst e3
    obtain ⟨a4, e4, -, -⟩ := DataW.trod_int Tryz.underlying3 g4
    simp only [List.cons.injEq, and_true] at e4
    subst e4
    obtain ⟨a5, e5, -, -⟩ := DataW.trod_int Tryz.underlying3 g5
    simp only [List.cons.injEq, and_true] at e5
    subst e5
    obtain ⟨a6, e6, -, -⟩ := DataW.trod_int Tryz.underlying3 g6
    simp only [List.cons.injEq, and_true] at e6
    subst e6
    obtain ⟨a7, e7, -, -⟩ := DataW.trod_int Tryz.underlying3 g7
    simp only [List.cons.injEq, and_true] at e7
    subst e7
    obtain ⟨a8, e8, -, -⟩ := DataW.trod_int Tryz.underlying3 g8
    simp only [List.cons.injEq, and_true] at e8
    subst e8
    exact ⟨[a0, a1, a2, a3, a4, a5, a6, a7, a8], by simp [encK, List.range, List.range.loop], rfl⟩
theorem el_bx (h : TR enc W n 60 cs y) : ∃ x : List Int, cs = encK 6 x ∧ x.length = 6 := by
  obtain ⟨xs, k, _, _, hl, hxl, hf⟩ := DataW.trod_struct Tryz.underlying60 h
  rw [c_bx] at hl
  match cs, hl, xs, hxl with
  | [v0, v1, v2, v3, v4, v5], _, [y0, y1], _ =>
    have g0 := hf 0 _ rfl
    have g1 := hf 1 _ rfl
    simp [c_pt] at g0 g1
    obtain ⟨x0, e0, l0⟩ := el_pt g0
    obtain ⟨a0_0, a0_1, a0_2, rfl⟩ := three l0
    simp [encK, List.range, List.range.loop] at e0
    obtain ⟨rfl, rfl, rfl⟩ := e0
    obtain ⟨x1, e1, l1⟩ := el_pt g1
    obtain ⟨a1_0, a1_1, a1_2, rfl⟩ := three l1
    simp [encK, List.range, List.range.loop] at e1
    obtain ⟨rfl, rfl, rfl⟩ := e1
    exact ⟨[a0_0, a0_1, a0_2, a1_0, a1_1, a1_2], by simp [encK, List.range, List.range.loop], rfl⟩
theorem el_br (h : TR enc W n 56 cs y) : ∃ x : (List UInt8 × List Int) × Value, cs = encR x ∧ (3 ≤ x.1.2.length ∧ IsI (x.1.2.drop 3) x.2 W) := by
  obtain ⟨xs, k, _, _, hl, hxl, hf⟩ := DataW.trod_struct Tryz.underlying56 h
  rw [c_br] at hl
  match cs, hl, xs, hxl with
  | [v0, v1, v2, v3, v4], _, [y0, y1, y2, y3, y4], _ =>
    have g0 := hf 0 _ rfl
    have g1 := hf 1 _ rfl
    have g2 := hf 2 _ rfl
    have g3 := hf 3 _ rfl
    have g4 := hf 4 _ rfl
    simp [c_int, c_str, c_ds] at g0 g1 g2 g3 g4
    obtain ⟨s, e0⟩ := el_s g0
    obtain ⟨a1, e1, -, -⟩ := DataW.trod_int Tryz.underlying3 g1
    obtain ⟨a2, e2, -, -⟩ := DataW.trod_int Tryz.underlying3 g2
    obtain ⟨a3, e3, -, -⟩ := DataW.trod_int Tryz.underlying3 g3
    obtain ⟨l, v, e4, hs, -, -⟩ := trod_sl encZ 1 (fun _ => True) Tryz.underlying54 c_int (by decide) (fun _ => rfl) (fun _ _ _ q => el_z q) g4
    simp only [List.cons.injEq, and_true] at e0 e1 e2 e3 e4
    subst e0 e1 e2 e3 e4
    exact ⟨((s, a1 :: a2 :: a3 :: l), v4), by simp [encR, encK, List.range, List.range.loop], by simp, hs⟩
theorem el_rn (h : TR enc W n 81 cs y) : ∃ x : List UInt8 × List Int, cs = encU x ∧ x.2.length = 9 := by
  obtain ⟨xs, k, _, _, hl, hxl, hf⟩ := DataW.trod_struct Tryz.underlying81 h
  rw [c_rn] at hl
  match cs, hl, xs, hxl with
  | [v0, v1, v2, v3, v4, v5, v6, v7, v8, v9], _, [y0, y1, y2, y3, y4], _ =>
    have g0 := hf 0 _ rfl
    have g1 := hf 1 _ rfl
    have g2 := hf 2 _ rfl
    have g3 := hf 3 _ rfl
    have g4 := hf 4 _ rfl
    simp [c_int, c_str, c_tn, c_pt] at g0 g1 g2 g3 g4
    obtain ⟨s, e0⟩ := el_s g0
    obtain ⟨x1, e1, l1⟩ := el_tn g1
    obtain ⟨x2, e2, l2⟩ := el_pt g2
    obtain ⟨x3, e3, l3⟩ := el_pt g3
    obtain ⟨a4, e4, -, -⟩ := DataW.trod_int Tryz.underlying3 g4
    obtain ⟨b1, b2, rfl⟩ := two l1
    obtain ⟨b3, b4, b5, rfl⟩ := three l2
    obtain ⟨b6, b7, b8, rfl⟩ := three l3
    simp [encK, List.range, List.range.loop] at e0 e1 e2 e3 e4
    obtain ⟨rfl, rfl⟩ := e1
    obtain ⟨rfl, rfl, rfl⟩ := e2
    obtain ⟨rfl, rfl, rfl⟩ := e3
    subst e0 e4
    exact ⟨(s, [b1, b2, b3, b4, b5, b6, b7, b8, a4]), by simp [encU, encK, List.range, List.range.loop], rfl⟩
theorem el_dm (h : TR enc W n 63 cs y) : ∃ x : (List UInt8 × List Int × List (List Int)) × Value, cs = encD x ∧ (x.1.2.1.length = 6 ∧ IsSt x.1.2.2 x.2 W ∧ ∀ q ∈ x.1.2.2, q.length = 2) := by
  obtain ⟨xs, k, _, _, hl, hxl, hf⟩ := DataW.trod_struct Tryz.underlying63 h
  rw [c_dm] at hl
  match cs, hl, xs, hxl with
  | [v0, v1, v2, v3, v4, v5, v6, v7], _, [y0, y1, y2], _ =>
    have g0 := hf 0 _ rfl
    have g1 := hf 1 _ rfl
    have g2 := hf 2 _ rfl
    simp [c_str, c_bx, c_ss] at g0 g1 g2
    obtain ⟨s, e0⟩ := el_s g0
    obtain ⟨x1, e1, l1⟩ := el_bx g1
    obtain ⟨l, v, e2, hs, hp, -⟩ := trod_sl (encK 2) 2 (fun x => x.length = 2) Tryz.underlying61 c_sp (by decide) (encK_len 2) (fun _ _ _ q => el_sp q) g2
    obtain ⟨b1, b2, b3, b4, b5, b6, rfl⟩ := six l1
    simp [encK, List.range, List.range.loop] at e0 e1 e2
    obtain ⟨rfl, rfl, rfl, rfl, rfl, rfl⟩ := e1
    subst e0 e2
    exact ⟨((s, [b1, b2, b3, b4, b5, b6], l), v7), by simp [encD, encK, List.range, List.range.loop], rfl, hs, hp⟩
/-- The shape of a detail whose names may be long. -/
structure Det.shp (d : Det) : Prop where
  mem : d.mem.length = 3
  boxes : ∀ n ∈ d.boxes, n.length = 6
  holes : ∀ n ∈ d.holes, n.length = 6
  rule : d.rule.length = 9
  bars : ∀ b ∈ d.bars, 3 ≤ b.2.length
  runs : ∀ b ∈ d.runs, b.2.length = 9
  laps : ∀ n ∈ d.laps, n.length = 2
  dems : ∀ x ∈ d.dems, x.2.1.length = 6 ∧ ∀ n ∈ x.2.2, n.length = 2
/-- Lists that are no longer than memory is. -/
structure Det.few (d : Det) : Prop where
  nb : d.boxes.length ≤ 140737488355328
  nh : d.holes.length ≤ 140737488355328
  nr : d.bars.length ≤ 140737488355328
  nu : d.runs.length ≤ 140737488355328
  nl : d.laps.length ≤ 140737488355328
  nd : d.dems.length ≤ 140737488355328
theorem len_of {H : Type} {n k : Nat} {e : TypeId} {t : TypeId} {x : DataW H} (hk : 0 < k) (hb : Tryz.prog.bytesOf e = k) (ht : Tryz.prog.underlying t = some (.slice e)) (hl : n = 0 ∨ ∃ el sp, x = .slice el sp ∧ n = el.length) (hw : (x.weights Tryz.prog t).all (· ≤ reachBytes) = true) : n ≤ 140737488355328 := by
  rcases hl with rfl | ⟨el, sp, rfl, rfl⟩
  · omega
  · unfold DataW.weights at hw
    simp only [ht] at hw
    rw [List.all_cons, Bool.and_eq_true, decide_eq_true_eq, hb] at hw
    have h1 := hw.1
    have h2 : reachBytes ≤ 140737488355328 := by decide
    have h3 : (el.length + sp.length) * 1 ≤ (el.length + sp.length) * k := Nat.mul_le_mul_left _ hk
    omega
theorem unzip_zip {α β : Type} : ∀ l : List (α × β), (l.map (·.1)).zip (l.map (·.2)) = l
  | [] => rfl
  | a :: l => by rw [List.map_cons, List.map_cons, List.zip_cons_cons, unzip_zip l]
theorem open_detail {r : Reach} {b0 : Nat} {v : Value} {x : DataW H} {ps : List MemPlace} (hval : Value.okWide Tryz.prog W r b0 34 v) (hd : DataW.Trod enc Tryz.prog W 0 (fun _ => true) true 34 v x ps) :
    ∃ (d : Det) (p : PV), v = .agg (detC d p) ∧ DetV W d p ∧ d.shp ∧ ((x.weights Tryz.prog 34).all (· ≤ reachBytes) = true → d.few) := by
  obtain ⟨cs, rfl, hsz⟩ := okWide_struct Tryz.underlying34 hval
  obtain ⟨fuel, hf⟩ := hd
  obtain ⟨xs, k, _, hx1, hl, hxl, hf⟩ := DataW.trod_struct Tryz.underlying34 hf
  obtain ⟨cl⟩ := cs
  rw [c_dt] at hl
  have hl : cl.length = 19 := hl
  match cl, hl, xs, hxl with
  | [v0, v1, v2, v3, v4, v5, v6, v7, v8, v9, v10, v11, v12, v13, v14, v15, v16, v17, v18], _, [y0, y1, y2, y3, y4, y5], _ =>
    have g0 := hf 0 _ rfl
    have g1 := hf 1 _ rfl
    have g2 := hf 2 _ rfl
    have g3 := hf 3 _ rfl
    have g4 := hf 4 _ rfl
    have g5 := hf 5 _ rfl
    simp [Value.cells, c_mb, c_rs, c_us, c_js, c_ms, c_rl] at g0 g1 g2 g3 g4 g5
    obtain ⟨xs, k, _, hx2, _, hxl, hf⟩ := DataW.trod_struct Tryz.underlying26 g0
    match xs, hxl with
    | [z0, z1, z2, z3, z4], _ =>
      have m0 := hf 0 _ rfl
      have m1 := hf 1 _ rfl
      have m2 := hf 2 _ rfl
      have m3 := hf 3 _ rfl
      have m4 := hf 4 _ rfl
      simp [c_str, c_sd, c_int] at m0 m1 m2 m3 m4
      obtain ⟨xs, k, _, hx3, _, hxl, hf⟩ := DataW.trod_struct Tryz.underlying24 m1
      match xs, hxl with
      | [t0, t1], _ =>
        have s0 := hf 0 _ rfl
        have s1 := hf 1 _ rfl
        simp [c_bs] at s0 s1
        obtain ⟨nm, e0⟩ := el_s m0
        obtain ⟨q0, ea, -, -⟩ := DataW.trod_int Tryz.underlying3 m2
        obtain ⟨q1, eb, -, -⟩ := DataW.trod_int Tryz.underlying3 m3
        obtain ⟨q2, ec, -, -⟩ := DataW.trod_int Tryz.underlying3 m4
        obtain ⟨lb, vb, f0, hb, pb, wb⟩ := trod_sl (encK 6) 6 (fun x => x.length = 6) Tryz.underlying22 c_bx (by decide) (encK_len 6) (fun _ _ _ q => el_bx q) s0
        obtain ⟨lh, vh, f1, hh, ph, wh⟩ := trod_sl (encK 6) 6 (fun x => x.length = 6) Tryz.underlying22 c_bx (by decide) (encK_len 6) (fun _ _ _ q => el_bx q) s1
        obtain ⟨lr, vr, f2, hr, pr, wr⟩ := trod_sl encR 5 (fun x => 3 ≤ x.1.2.length ∧ IsI (x.1.2.drop 3) x.2 W) Tryz.underlying27 c_br (by decide) encR_len (fun _ _ _ q => el_br q) g1
        obtain ⟨lu, vu, f3, hu, pu, wu⟩ := trod_sl encU 10 (fun x => x.2.length = 9) Tryz.underlying28 c_rn (by decide) encU_len (fun _ _ _ q => el_rn q) g2
        obtain ⟨lj, vj, f4, hj, pj, wj⟩ := trod_sl (encK 2) 2 (fun x => x.length = 2) Tryz.underlying29 c_jt (by decide) (encK_len 2) (fun _ _ _ q => el_jt q) g3
        obtain ⟨lm, vm, f5, hm, pm, wm⟩ := trod_sl encD 8 (fun x => x.1.2.1.length = 6 ∧ IsSt x.1.2.2 x.2 W ∧ ∀ q ∈ x.1.2.2, q.length = 2) Tryz.underlying30 c_dm (by decide) encD_len (fun _ _ _ q => el_dm q) g4
        obtain ⟨rl, e6, hl6⟩ := el_rl g5
        obtain ⟨r0, r1, r2, r3, r4, r5, r6, r7, r8, rfl⟩ := nine hl6
        simp [encK, List.range, List.range.loop] at e0 ea eb ec f0 f1 f2 f3 f4 f5 e6
        obtain ⟨rfl, rfl, rfl, rfl, rfl, rfl, rfl, rfl, rfl⟩ := e6
        subst e0 ea eb ec f0 f1 f2 f3 f4 f5
        refine ⟨⟨nm, [q0, q1, q2], lb, lh, [r0, r1, r2, r3, r4, r5, r6, r7, r8], lr.map (·.1), lu, lj, lm.map (·.1)⟩, ⟨.nilFunc, v1, v2, v6, v7, v8, v9, lr.map (·.2), lm.map (·.2)⟩, ?_, ?_, ?_, fun hw => ?_⟩
        · simp [detC, encK, List.range, List.range.loop]
        · refine ⟨hb, hh, by rw [unzip_zip]; exact hr, hu, hj, by rw [unzip_zip]; exact hm, by simp, by simp, fun k h1 h2 => ?_, fun k h1 h2 => ?_⟩
          · have hk : k < lr.length := by simpa using h2
            have := (pr _ (List.getElem_mem hk)).2
            simpa using this
          · have hk : k < lm.length := by simpa using h2
            have := (pm _ (List.getElem_mem hk)).2.1
            simpa using this
        · refine ⟨rfl, pb, ph, rfl, fun b hb => ?_, pu, pj, fun b hb => ?_⟩
          · obtain ⟨x, hx, rfl⟩ := List.mem_map.1 hb
            exact (pr x hx).1
          · obtain ⟨x, hx, rfl⟩ := List.mem_map.1 hb
            exact ⟨(pm x hx).1, (pm x hx).2.2⟩
        · have k1 : ∀ {α : Type} {l m : List α} {p : α → Bool}, (l ++ m).all p = true → l.all p = true ∧ m.all p = true := fun h => by rwa [List.all_append, Bool.and_eq_true] at h
          rw [(Prod.mk.inj hx1).1] at hw
          unfold DataW.weights at hw
          simp only [Tryz.underlying34, List.map_cons, List.map_nil] at hw
          simp only [DataW.weightsEach] at hw
          obtain ⟨w0, hw⟩ := k1 hw
          obtain ⟨w1, hw⟩ := k1 hw
          obtain ⟨w2, hw⟩ := k1 hw
          obtain ⟨w3, hw⟩ := k1 hw
          obtain ⟨w4, hw⟩ := k1 hw
          rw [hx2] at w0
          unfold DataW.weights at w0
          simp only [Tryz.underlying26, List.map_cons, List.map_nil] at w0
          simp only [DataW.weightsEach] at w0
          obtain ⟨_, w0⟩ := k1 w0
          obtain ⟨w5, _⟩ := k1 w0
          rw [hx3] at w5
          unfold DataW.weights at w5
          simp only [Tryz.underlying24, List.map_cons, List.map_nil] at w5
          simp only [DataW.weightsEach] at w5
          obtain ⟨w6, w5⟩ := k1 w5
          obtain ⟨w7, _⟩ := k1 w5
          exact ⟨len_of (k := 48) (by decide) (by kernel_rfl) Tryz.underlying22 wb w6, len_of (k := 48) (by decide) (by kernel_rfl) Tryz.underlying22 wh w7,
            by rw [List.length_map]; exact len_of (k := 64) (by decide) (by kernel_rfl) Tryz.underlying27 wr w1, len_of (k := 88) (by decide) (by kernel_rfl) Tryz.underlying28 wu w2,
            len_of (k := 16) (by decide) (by kernel_rfl) Tryz.underlying29 wj w3, by rw [List.length_map]; exact len_of (k := 88) (by decide) (by kernel_rfl) Tryz.underlying30 wm w4⟩
end
end

end Go.Proofs.YtccakklnbhcbdaaGreatDoor
