/- slices.Clone and slices.Reverse at fractions. -/
import Derived.Test.YtpijmjffobkalaaDoorLTxt
import Derived.Test.YtpijmjffobkalaaDoorRaP4
import Derived.Shelf.SlicesE.Clone
import Derived.Shelf.SlicesQ.Reverse
import Derived.Ground.SlgnProg
import Derived.Shelf.Lay
set_option linter.unusedVariables false
namespace Go.Proofs.YtpijmjffobkalaaDoor
open Go.ChangeShapes Go.WideShapes Go.ChangeAt Go.RowKit
open Go.Shelf

shelf_lay_g SlLaysE0.n41 Slgn 41 at Tryd 38 as Tryd.cloneFr
shelf_lay_g SlLaysE0.n35 Slgn 35 at Tryd 39 as Tryd.reverseFr
noncomputable def frI : TypeInfo := (Tryd.prog.info? 23).get (by kernel_rfl)
/-- A fraction's two cells. -/
def encF (x : Int × Int) : List Value := [.int .i64 x.1, .int .i64 x.2]
def newsF (l : List (Int × Int)) : List Value := l.flatMap encF
theorem newsF_len : ∀ (l : List (Int × Int)), (newsF l).length = l.length * 2
  | [] => rfl
  | x :: l => by
    show (encF x ++ newsF l).length = _
    rw [List.length_append, newsF_len l]
    simp [encF]
    omega
theorem newsF_at : ∀ (l : List (Int × Int)) (k : Nat) (hk : k < l.length), (newsF l)[k * 2]? = some (.int .i64 l[k].1) ∧ (newsF l)[k * 2 + 1]? = some (.int .i64 l[k].2)
  | x :: l, 0, _ => ⟨rfl, rfl⟩
  | x :: l, k + 1, hk => by
    have := newsF_at l k (by simpa using hk)
    show (encF x ++ newsF l)[(k + 1) * 2]? = _ ∧ (encF x ++ newsF l)[(k + 1) * 2 + 1]? = _
    rw [List.getElem?_append_right (by simp [encF]; omega), List.getElem?_append_right (by simp [encF]; omega)]
    simp only [encF, List.length_cons, List.length_nil]
    rw [show (k + 1) * 2 - (0 + 1 + 1) = k * 2 by omega, show (k + 1) * 2 + 1 - (0 + 1 + 1) = k * 2 + 1 by omega]
    exact this
theorem newsF_one : ∀ (l : List (Int × Int)), ∀ u ∈ newsF l, u.oneCell' = true := by
  intro l u hu
  obtain ⟨x, _, hx⟩ := List.mem_flatMap.1 hu
  simp [encF] at hx
  rcases hx with rfl | rfl <;> rfl
/-- A slice of fractions that the call owns: its whole block. -/
def Own (B : Nat) (w : World) (v : Value) (l : List (Int × Int)) : Prop :=
  (v = .slice none 0 0 ∧ l = []) ∨ ∃ g cap cur, v = .slice (some ⟨g, 0, none⟩) l.length cap ∧ B ≤ g ∧ w.heap[g]? = some (.cells cur 23 (0, 0)) ∧ l.length ≤ cap ∧ cap ≤ maxLen ∧ cur.size = cap * 2 ∧ cur.toList.take (l.length * 2) = newsF l
theorem clone_any (l : List (Int × Int)) (ao : Option Addr) (cap : Nat) (hl : l.length ≤ 1000) (hf : (ao = none ∧ l = []) ∨ ∃ b off, ao = some ⟨b, off, none⟩) (B : Nat) (w : World) (ha : FrAt B w ao l) :
    Calls Tryd.prog 38 #[.slice ao l.length cap] w fun e w' => (∃ v, e = .returned v ∧ Own w.heap.size w' v l) ∧ Below w.heap.size w w' := by
  rcases hf with ⟨rfl, rfl⟩ | ⟨b, off, rfl⟩
  · refine (AnyE.slices_Clone_nil Tryd.cloneFr 0 cap w).mono ?_
    rintro e w' ⟨rfl, rfl⟩
    exact ⟨⟨_, rfl, .inl ⟨rfl, rfl⟩⟩, Below.refl _ _⟩
  · refine (AnyE.slices_Clone Tryd.cloneFr frI (.agg #[.int .i64 0, .int .i64 0]) 2 16 (by kernel_rfl) (by kernel_rfl) (by kernel_rfl) (by kernel_rfl) rfl (by decide) Tryd.sizeOf23 b off l.length cap (newsF l) w (newsF_len l) (by unfold maxLen; omega) (by omega) ?_ (newsF_one l)).mono ?_
    · intro j u hj
      have hlt : j < l.length * 2 := by
        rw [← newsF_len]
        exact (List.getElem?_eq_some_iff.1 hj).1
      have hk : j / 2 < l.length := by omega
      obtain ⟨b', off', e, c0, c1, _⟩ := ha (j / 2) hk
      simp only [Option.some.injEq, Addr.mk.injEq, and_true] at e
      obtain ⟨rfl, rfl⟩ := e
      have hn := newsF_at l (j / 2) hk
      rcases Nat.mod_two_eq_zero_or_one j with h | h
      · have e : j / 2 * 2 = j := by omega
        rw [e] at c0 hn
        rw [hn.1] at hj
        rw [c0, hj]
      · have e : j / 2 * 2 + 1 = j := by omega
        rw [Nat.add_assoc, e] at c1
        rw [e] at hn
        rw [hn.2] at hj
        rw [c1, hj]
    · rintro e w' ⟨v, rfl, ho, _, hb⟩
      refine ⟨⟨v, rfl, ?_⟩, hb⟩
      obtain ⟨hl2, ⟨rfl, h0⟩ | ⟨g, c, cur, rfl, h1, h2, h3, h4, h5, h6⟩⟩ := ho
      · exact .inl ⟨rfl, List.length_eq_zero_iff.1 h0⟩
      · exact .inr ⟨g, c, cur, rfl, h1, h2, h3, h4, h5, h6⟩
theorem Own.bel {B : Nat} {w w' : World} {v : Value} {l : List (Int × Int)} (h : Own B w v l) (hb : Below w.heap.size w w') : Own B w' v l := by
  rcases h with h | ⟨g, cap, cur, h1, h2, h3, h4⟩
  · exact .inl h
  · refine .inr ⟨g, cap, cur, h1, h2, ?_, h4⟩
    rw [hb.block g (Array.getElem?_eq_some_iff.1 h3).1]
    exact h3
theorem own_cells {w : World} {g cap : Nat} {cur : Array Value} {l : List (Int × Int)} (h : w.heap[g]? = some (.cells cur 23 (0, 0))) (h6 : cur.toList.take (l.length * 2) = newsF l) (k : Nat) (hk : k < l.length) :
    w.cell? ⟨g, k * 2, none⟩ = some (.int .i64 l[k].1) ∧ w.cell? ⟨g, k * 2 + 1, none⟩ = some (.int .i64 l[k].2) := by
  have hc : ∀ i, w.cell? ⟨g, i, none⟩ = cur[i]? := fun i => cell_of_row w g i cur 23 (0, 0) h
  have hn := newsF_at l k hk
  rw [← h6, List.getElem?_take_of_lt (by omega), List.getElem?_take_of_lt (by omega)] at hn
  rw [hc, hc]
  simpa using hn
/-- It may be read. -/
theorem Own.fr {B : Nat} {w : World} {v : Value} {l : List (Int × Int)} (h : Own B w v l) : ∃ ao cap, v = .slice ao l.length cap ∧ l.length ≤ cap ∧ FrAt w.heap.size w ao l := by
  rcases h with ⟨rfl, rfl⟩ | ⟨g, cap, cur, rfl, h2, h3, h4, h5, h6, h7⟩
  · exact ⟨none, 0, rfl, Nat.le_refl _, fun k hk => absurd hk (by simp)⟩
  · refine ⟨_, cap, rfl, h4, fun k hk => ?_⟩
    obtain ⟨c0, c1⟩ := own_cells (cap := cap) h3 h7 k hk
    exact ⟨g, 0, rfl, by simpa using c0, by simpa using c1, (Array.getElem?_eq_some_iff.1 h3).1⟩
theorem hold_f {w : World} {g : Nat} {cur : Array Value} {l : List (Int × Int)} (h : w.heap[g]? = some (.cells cur 23 (0, 0))) (h6 : cur.toList.take (l.length * 2) = newsF l) : Go.Sort.HoldsK encF 2 w g 0 l.toArray := by
  intro t ht
  have ht' : t < l.length * 2 := by simpa using ht
  have hk : t / 2 < l.length := by omega
  obtain ⟨c0, c1⟩ := own_cells (cap := 0) h h6 (t / 2) hk
  rw [Go.Sort.get_flatK _ _ _ _ (by simpa using ht')]
  have hd : l.toArray[t / 2]! = l[t / 2] := by rw [getElem!_pos l.toArray (t / 2) (by simpa using hk)]; simp
  rw [hd]
  refine ⟨?_, by simp [World.frozen?, h]⟩
  rcases Nat.mod_two_eq_zero_or_one t with hm | hm
  · rw [hm, Nat.zero_add]
    rw [show t / 2 * 2 = t by omega] at c0
    exact c0
  · rw [hm, Nat.zero_add]
    rw [show t / 2 * 2 + 1 = t by omega] at c1
    exact c1
theorem reverse_any (l : List (Int × Int)) (v : Value) (hl : l.length ≤ 1000) (B : Nat) (w : World) (h : Own B w v l) (hB : B ≤ w.heap.size) :
    Calls Tryd.prog 39 #[v] w fun e w' => (e = .returned (.tuple #[]) ∧ ∃ ao cap, v = .slice ao l.reverse.length cap ∧ l.reverse.length ≤ cap ∧ cap ≤ 9223372036854775807 ∧ FrAt w'.heap.size w' ao l.reverse) ∧ Below B w w' := by
  rcases h with ⟨rfl, rfl⟩ | ⟨g, cap, cur, rfl, h2, h3, h4, h5, h6, h7⟩
  · refine (AnyQ.slices_Reverse_empty Tryd.reverseFr none 0 w).mono ?_
    rintro e w' ⟨rfl, rfl⟩
    exact ⟨⟨rfl, none, 0, rfl, Nat.le_refl _, Nat.zero_le _, fun k hk => absurd hk (by simp)⟩, Below.refl _ _⟩
  · have hH := hold_f h3 h7
    refine (AnyQ.slices_Reverse Tryd.reverseFr 2 Tryd.isAgg23 Tryd.sizeOf23 encF (fun _ => rfl) (fun x v hv => by simp [encF] at hv; rcases hv with rfl | rfl <;> rfl) g 0 cap l.toArray w hH (by simp; omega)).mono ?_
    rintro e w' ⟨rfl, n, rfl⟩
    have hg : g < w.heap.size := (Array.getElem?_eq_some_iff.1 h3).1
    have hH2 := Go.Sort.holdsK_putRowK encF 2 (Go.Sort.ahead w n) g 0 l.toArray l.toArray.reverse (Go.Sort.holdsK_ahead encF 2 w n g 0 _ hH) (by simp)
    refine ⟨⟨rfl, some ⟨g, 0, none⟩, cap, by simp, by simpa using h4, (by have : cap ≤ 2 ^ 63 - 1 := h5; omega), ?_⟩, ?_⟩
    · intro k hk
      have hk' : k < l.toArray.reverse.size := by simpa using hk
      have c0 := hH2.cell hk' (show 0 < 2 by decide)
      have c1 := hH2.cell hk' (show 1 < 2 by decide)
      have hd : l.toArray.reverse[k]! = l.reverse[k] := by rw [getElem!_pos l.toArray.reverse k hk']; simp
      rw [hd] at c0 c1
      exact ⟨g, 0, rfl, c0.1, c1.1, by simpa [Go.Sort.putRowK, Go.Sort.ahead] using hg⟩
    · refine ⟨rfl, rfl, rfl, by simp [Go.Sort.putRowK, Go.Sort.ahead], fun i hi => ?_⟩
      show (Go.Sort.mapBlock (Go.Sort.ahead w n) g _).heap[i]? = w.heap[i]?
      have hne : g ≠ i := by omega
      simp [Go.Sort.mapBlock, Go.Sort.ahead, Array.getElem?_modify, hne]

end Go.Proofs.YtpijmjffobkalaaDoor
