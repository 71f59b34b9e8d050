/- The listed tables of TopBundled: the door's own heap meets the condition; a wrap that keeps the world's shape. Slices of bars, opened. -/
import Derived.Test.YtjlkbmaigcgnbaaDoorBJ35
import Derived.Test.YtjlkbmaigcgnbaaDoorBJ37
import Derived.Test.YtjlkbmaigcgnbaaDoorRows
import Derived.Deep.Slices
import Derived.WideShapes
import Derived.ChangeArms
import Derived.ProofKit
import Derived.LaidMore
import Derived.Lay
import Derived.OpenShut
import Derived.Stop.Joined
import Derived.Stop.LaidErr
import Derived.Handed
import Derived.Shelf.Vars
set_option linter.unusedVariables false
set_option maxRecDepth 10000
namespace Go.Proofs.YtjlkbmaigcgnbaaDoor
open Go.ChangeShapes Go.WideShapes Go.ChangeAt Go.RowKit Go.Deep Go.ChangeMaps
abbrev laid7 : List (String × DataW Unit) := Rows.topBundledRow.laid
set_option maxRecDepth 100000 in
theorem door_met (os : Os) (args : Array Value) : laidMetH Tryd.prog laid7 ((World.laidAll Tryd.prog os laid7).forCall (fun _ _ => 0) ⟨#[], args, []⟩).memory := by
  rw [MakeChecks.laidMetH_plain _ _ _ (by kernel_rfl)]
  exact laidMet_laidAll _ (by kernel_rfl) (by kernel_rfl)
theorem door_shaped (os : Os) : (World.laidAll Tryd.prog os laid7).Shaped Tryd.prog := World.shaped_of_ZipB (by kernel_rfl) (by kernel_rfl)
theorem env_of {W : World} (h : laidMetH Tryd.prog laid7 W) (hs : W.ShapedOpen Tryd.prog) : Tab W := by
  rw [MakeChecks.laidMetH_plain _ _ _ (by kernel_rfl)] at h
  have h2 := Go.laidMet.tail (Go.laidMet.tail h)
  exact Lib.tabIs_of_head (g := 0) (by kernel_rfl) (by kernel_rfl) Tryd.underlying138 Tryd.underlying127 (by kernel_rfl) (by kernel_rfl) h2
section
variable {H : Type} {enc : TypeId × Value → H}
theorem handed_both {os : Os} {f : FuncId} {fn : Func} {s : ChangeSpec} {X : World → Array Value → Prop}
    (hX : ∀ (w w' : World) (args : Array Value), w.heap = w'.heap → X w args → X w' args)
    (own : ownKnob Tryd.checked.prog.godebug = none) (started : os.Started) (noInit : Tryd.checked.prog.inits.idxOf? f = none) (hfn : Tryd.checked.prog.funcs[f]? = some fn)
    (witness : ∃ (w : World) (tape : Tape) (i : Input), w.os = os ∧ (w.forCall tape i).Shaped Tryd.checked.prog ∧ i.vars = [] ∧ Input.okWide Tryd.checked.prog (w.forCall tape i) .any w.heap.size f i ∧
      ((s.pre enc Tryd.checked.prog fn [] false (w.forCall tape i).memory i.args ∧ X (w.forCall tape i).memory i.args) ∧ sizedMet enc Tryd.checked.prog fn (OpenSpec.ofChange s) false (w.forCall tape i).memory i.args) ∧ ({} : Assume).holds Tryd.checked.prog (lone (Frame.enter Tryd.checked.prog f i.args .normal) [] (w.forCall tape i)))
    (contract : ∀ (W : World) (base : Nat) (args : Array Value) (ds gs : List (DataW H)) (before : List MemPlace),
      (∀ (j : Nat) t v, fn.params[j]? = some t → args[j]? = some v → Value.okWide Tryd.checked.prog W .any base t v) →
      DataW.Whole enc Tryd.checked.prog fn.params.toList s.vars false W args.toList ds gs before →
      X W args → W.ShapedOpen Tryd.checked.prog →
      Calls Tryd.checked.prog f args W fun e W' => ∃ v, e = .returned v ∧ s.post enc Tryd.checked.prog fn false true false false W args v W') :
    ReturnsInHanded {} Tryd.checked os f .any (fun w args => (s.pre enc Tryd.checked.prog fn [] false w args ∧ X w args) ∧ sizedMet enc Tryd.checked.prog fn (OpenSpec.ofChange s) false w args) (s.post enc Tryd.checked.prog fn false true false false) := by
  refine returnsInHanded_of_calls own started noInit witness fun w tape i _ hsh _ hok hpre _ => ?_
  obtain ⟨_, _, _, fn2, h2, _, _, _, _, hval⟩ := hok
  obtain rfl : fn2 = fn := Option.some.inj (h2.symm.trans hfn)
  obtain ⟨⟨⟨ds, gs, before, hw, _⟩, hx⟩, _⟩ := hpre
  refine (contract (w.forCall tape i) w.heap.size i.args ds gs before hval (DataW.Whole.of_heap (w' := w.forCall tape i) (by rfl) hw) (hX _ _ _ (by rfl) hx) hsh).mono ?_
  rintro e W' ⟨v, rfl, hp⟩
  exact ChangeSpec.post_blind hp
def SlV {α : Type} (w : World) (sz : Nat) (enc : α → List Value) (v : Value) (l : List α) : Prop := ∃ a c, v = .slice a l.length c ∧ l.length ≤ c ∧ c ≤ 9223372036854775807 ∧ RowAt enc sz w.heap.size w a l
theorem trod_sl {α : Type} [Inhabited α] (encA : α → List Value) (sz : Nat) (Pr : α → Prop) {W : World} {t e : TypeId} {fuel : Nat} {cs : List Value} {y : DataW H × List MemPlace} (ht : Tryd.prog.underlying t = some (.slice e)) (ce : Tryd.prog.cellsOf e = sz) (h0 : 0 < sz) (henc : ∀ x, (encA x).length = sz)
    (hel : ∀ n cs y, DataW.trod enc Tryd.prog W 0 (fun _ => true) true n e cs = some y → ∃ x : α, cs = encA x ∧ Pr x)
    (hd : DataW.trod enc Tryd.prog W 0 (fun _ => true) true fuel t cs = some y) : ∃ (l : List α) (v : Value), cs = [v] ∧ SlV W sz encA v l ∧ (∀ x ∈ l, Pr x) ∧ ((l.length = 0) ∨ ∃ el sp, y.1 = .slice el sp ∧ l.length = el.length) := by
  rcases open_slice ht hd with ⟨hc, _⟩ | ⟨a, len, cap, m, n, D, Pl, hc, _, hl, hm, hmm, hy, hx⟩
  · exact ⟨[], .slice none 0 0, hc, ⟨none, 0, rfl, Nat.le_refl _, by omega, RowAt.nil _ _⟩, fun x h => (by cases h), .inl rfl⟩
  · simp only [if_true] at hmm
    subst hmm
    have hm' : m ≤ 9223372036854775807 := hm
    have each : ∀ i, i < len → ∃ x : α, Pr x ∧ ∀ j u, (encA x)[j]? = some u → W.cell? ((a.add (i * sz)).add j) = some u := by
      intro i hi
      obtain ⟨cs', h1, h2⟩ := hx i (by omega)
      rw [ce] at h1
      obtain ⟨_, hlen, hcell⟩ := World.cells?_some h1
      obtain ⟨x, rfl, hp⟩ := hel _ _ _ h2
      refine ⟨x, hp, fun j u hu => ?_⟩
      have hj : j < sz := by rw [← henc x]; exact (List.getElem?_eq_some_iff.1 hu).1
      rw [hcell j (by omega), ← hu]
    obtain ⟨q, hq⟩ := choose_lt each
    refine ⟨(List.range len).map q, .slice (some a) len m, hc, ⟨some a, m, by simp, by simpa using hl, hm', ?_⟩, fun x hx => ?_, .inr ⟨_, _, by rw [hy], by simp⟩⟩
    · intro k hk
      have hk' : k < len := by simpa using hk
      have hne : ∀ i, 0 < (encA (q i)).length := fun i => by rw [henc]; exact h0
      have hsp : a.spot = none := by
        have hc := (hq 0 (by omega)).2 0 _ (List.getElem?_eq_getElem (hne 0))
        rw [Nat.zero_mul] at hc
        have hc : W.cell? a = some _ := hc
        unfold World.cell? at hc
        split at hc
        · split at hc
          · cases hc
          · rename_i h; simpa using h
        · cases hc
      obtain ⟨b, off, sp⟩ := a
      have hsp : sp = none := hsp
      subst hsp
      have ad : ∀ i, (⟨b, off, none⟩ : Addr).add i = ⟨b, off + i, none⟩ := fun i => by cases i <;> simp [Addr.add]
      have hc := (hq k hk').2
      have hb : b < W.heap.size := by
        have := hc 0 _ (List.getElem?_eq_getElem (hne k))
        rw [ad] at this
        exact block_lt_of_cell (show W.cell? ⟨b, off + k * sz, none⟩ = some _ from this)
      refine ⟨b, off, rfl, hb, fun j u hu => ?_⟩
      have e : ((List.range len).map q)[k] = q k := by simp
      rw [e] at hu
      have := hc j u hu
      rw [add_add, ad, ← Nat.add_assoc] at this
      exact this
    · obtain ⟨i, hi, rfl⟩ := List.mem_map.1 hx
      exact (hq i (List.mem_range.1 hi)).1
theorem c_strT : Tryd.prog.cellsOf 9 = 1 := by kernel_rfl
theorem c_br : Tryd.prog.cellsOf 50 = 5 := by kernel_rfl
theorem c_ds : Tryd.prog.cellsOf 42 = 1 := by kernel_rfl
abbrev BrI (W : World) := { x : Br × Value // IsI x.1.dims x.2 W }
theorem isI_nil (W : World) : IsI [] (.slice none 0 0) W := ⟨none, 0, rfl, Nat.le_refl _, by decide, RowAt.nil _ _⟩
instance (W : World) : Inhabited (BrI W) := ⟨⟨(⟨⟨#[]⟩, 0, 0, 0, []⟩, .slice none 0 0), isI_nil W⟩⟩
theorem el_barI {W : World} {n : Nat} {cs : List Value} {y : DataW H × List MemPlace} (h : DataW.trod enc Tryd.prog W 0 (fun _ => true) true n 50 cs = some y) : ∃ x : BrI W, cs = encQ x.1 := by
  obtain ⟨xs, k, _, _, hl, hxl, hf⟩ := DataW.trod_struct Tryd.underlying50 h
  rw [c_br] at hl
  match cs, hl, xs, hxl with
  | [v0, v1, v2, v3, v4], _, [y0, y1, y2, y3, y4], _ =>
    have g0 := hf 0 _ rfl
    have g1 := hf 1 _ rfl
    have g2 := hf 2 _ rfl
    have g3 := hf 3 _ rfl
    have g4 := hf 4 _ rfl
    simp [c_int, c_strT, c_ds] at g0 g1 g2 g3 g4
    obtain ⟨s, e0, -, -⟩ := DataW.trod_string Tryd.underlying9 g0
    obtain ⟨a1, e1, -, -⟩ := DataW.trod_int Tryd.underlying3 g1
    obtain ⟨a2, e2, -, -⟩ := DataW.trod_int Tryd.underlying3 g2
    obtain ⟨a3, e3, -, -⟩ := DataW.trod_int Tryd.underlying3 g3
    obtain ⟨l, v, e4, hs, -, -⟩ := trod_sl encZ 1 (fun _ => True) Tryd.underlying42 c_int (by decide) (fun _ => rfl) (fun _ _ _ q => by
      obtain ⟨a, e, -, -⟩ := DataW.trod_int Tryd.underlying3 q
      exact ⟨a, e, trivial⟩) g4
    simp only [List.cons.injEq, and_true] at e0 e1 e2 e3 e4
    subst e0 e1 e2 e3 e4
    exact ⟨⟨(⟨s, a1, a2, a3, l⟩, v4), hs⟩, rfl⟩
theorem open_bars {W : World} {r : Reach} {b0 : Nat} {v : Value} {d : DataW H} {ps : List MemPlace} (hval : Value.okWide Tryd.prog W r b0 22 v) (hd : DataW.Trod enc Tryd.prog W 0 (fun _ => true) true 22 v d ps) : ∃ (l : List Br) (ds : List Value) (ao : Option Addr) (cap : Nat), v = .slice ao l.length cap ∧ BarsW W l ds ao cap := by
  obtain ⟨l, ao, cap, rfl, h1, h2, h3, -⟩ := open_row (fun x : BrI W => encQ x.1) 5 Tryd.underlying22 c_br (by decide) (fun x => encQ_len x.1) (fun _ _ _ q => el_barI q) hval hd
  have hz : (l.map (·.1.1)).zip (l.map (·.1.2)) = l.map (·.1) := by
    rw [List.zip_map']
  refine ⟨l.map (·.1.1), l.map (·.1.2), ao, cap, by simp, ⟨by simpa using h1, h2, ?_, by simp, fun k q1 q2 => ?_⟩⟩
  · rw [hz]
    intro k hk
    obtain ⟨b, off, e, hlt, hc⟩ := h3 k (by simpa using hk)
    refine ⟨b, off, e, hlt, fun j u hu => hc j u ?_⟩
    simpa using hu
  · simp only [List.getElem_map]
    exact (l[k]'(by simpa using q1)).2
end
end Go.Proofs.YtjlkbmaigcgnbaaDoor
