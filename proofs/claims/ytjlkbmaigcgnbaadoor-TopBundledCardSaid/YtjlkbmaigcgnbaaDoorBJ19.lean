/- Slices of ints whose contents do not matter. Plain: right loads, and the bound on their number. -/
import Derived.Test.YtjlkbmaigcgnbaaDoorBJ18
import Derived.Test.YtjlkbmaigcgnbaaDoorBJ13
set_option linter.unusedVariables false
namespace Go.Proofs.YtjlkbmaigcgnbaaDoor
open Go.ChangeShapes Go.WideShapes Go.ChangeAt Go.RowKit
def IntB (w : World) (g cap : Nat) : Prop := ∃ zs : List Int, zs.length = cap ∧ w.heap[g]? = some (.cells (intV zs).toArray 3 (0, 0))
def IntS (S : Nat) (w : World) (v : Value) (n : Nat) : Prop := (v = .slice none 0 0 ∧ n = 0) ∨ ∃ g cap, v = .slice (some ⟨g, 0, none⟩) n cap ∧ S < g ∧ n ≤ cap ∧ cap ≤ maxLen ∧ IntB w g cap
def KeepI (w w' : World) : Prop := ∀ g cap, IntB w g cap → IntB w' g cap
section
variable {w w' : World} {S n : Nat} {v : Value}
theorem IntB.lt {g cap : Nat} (h : IntB w g cap) : g < w.heap.size := by
  obtain ⟨zs, _, h⟩ := h
  exact (Array.getElem?_eq_some_iff.1 h).1
theorem IntB.same {g cap : Nat} (h : IntB w g cap) (hb : w'.heap[g]? = w.heap[g]?) : IntB w' g cap := by
  obtain ⟨zs, h1, h2⟩ := h
  exact ⟨zs, h1, hb.trans h2⟩
theorem IntS.lt (h : IntS S w v n) {b : Nat} (hb : v.ownBlock = some b) : b < w.heap.size ∧ S < b := by
  obtain ⟨rfl, rfl⟩ | ⟨g, cap, rfl, h1, h2, h3, h4⟩ := h
  · cases hb
  · have hb : some g = some b := hb
    injection hb with hb
    subst hb
    exact ⟨h4.lt, h1⟩
theorem IntS.row (h : IntS S w v n) : ∃ zs : List Int, zs.length = n ∧ w.ownsRow (S + 1) 3 1 v n (intV zs) := by
  obtain ⟨rfl, rfl⟩ | ⟨g, cap, rfl, h1, h2, h3, zs, h4, h5⟩ := h
  · exact ⟨[], rfl, World.ownsRow_nil _ _ _ _⟩
  · refine ⟨zs.take n, by rw [List.length_take]; omega, by rw [intV_len, List.length_take]; omega, .inr ⟨g, cap, _, rfl, h1, h5, h2, h3, by simp [intV_len, h4], ?_⟩⟩
    simp only [Nat.mul_one]
    unfold intV
    rw [List.map_take]
theorem IntS.keep (h : IntS S w v n) (k : KeepI w w') : IntS S w' v n := h.imp id fun ⟨g, cap, h1, h2, h3, h4, h5⟩ => ⟨g, cap, h1, h2, h3, h4, k _ _ h5⟩
theorem IntS.nil (S : Nat) (w : World) : IntS S w (.slice none 0 0) 0 := .inl ⟨rfl, rfl⟩
theorem IntS.slice (h : IntS S w v n) : ∃ a c, v = .slice a n c ∧ n ≤ c ∧ c ≤ maxLen := by
  obtain ⟨rfl, rfl⟩ | ⟨g, cap, rfl, h1, h2, h3, h4⟩ := h
  · exact ⟨none, 0, rfl, Nat.le_refl _, Nat.zero_le _⟩
  · exact ⟨_, cap, rfl, h2, h3⟩
theorem IntS.cut {a : Option Addr} {c m : Nat} (h : IntS S w (.slice a (n + 1) c) (n + 1)) (hm : m ≤ n + 1) : IntS S w (.slice a m c) m := by
  obtain ⟨h1, h2⟩ | ⟨g, cap, e, h1, h2, h3, h4⟩ := h
  · cases h2
  · injection e with e1 e2 e3
    subst e1 e3
    exact .inr ⟨g, c, rfl, h1, by omega, h3, h4⟩
theorem KeepI.refl (w : World) : KeepI w w := fun _ _ h => h
theorem KeepI.trans {w1 w2 w3 : World} (h : KeepI w1 w2) (k : KeepI w2 w3) : KeepI w1 w3 := fun g cap hg => k g cap (h g cap hg)
theorem KeepI.bel (h : Below w.heap.size w w') : KeepI w w' := fun g cap hg => hg.same (h.block g hg.lt)
theorem KeepI.grown {r : Option Nat} (hg : w.grownBy w' r) (hr : ∀ g cap, r = some g → ¬ IntB w g cap) : KeepI w w' := fun g cap h => h.same (hg.block g h.lt fun e => hr g cap e.symm h)
theorem KeepI.setI (g k : Nat) (z : Int) : KeepI w (w.setCell ⟨g, k, none⟩ (.int .i64 z)) := fun g' cap h => by
  by_cases e : g' = g
  · subst e
    obtain ⟨zs, h1, h2⟩ := h
    refine ⟨zs.set k z, by rw [List.length_set]; exact h1, ?_⟩
    rw [heap_setCell_same w g' k _ _ _ h2]
    congr 2
    unfold intV
    rw [List.map_set]
    simp
  · exact h.same (heap_setCell_other w _ g' _ e)
theorem KeepI.setO {g k : Nat} {u : Value} (hr : ∀ cap, ¬ IntB w g cap) : KeepI w (w.setCell ⟨g, k, none⟩ u) := fun g' cap h => by
  by_cases e : g' = g
  · subst e
    exact absurd h (hr cap)
  · exact h.same (heap_setCell_other w _ g' _ e)
theorem not_int {B sz : Nat} {xs : List Value} (h : w.ownsRow B 42 sz v n xs) {b : Nat} (hb : v.ownBlock = some b) (cap : Nat) : ¬ IntB w b cap := fun ⟨zs, _, hz⟩ => by
  obtain ⟨_, ⟨q, _⟩ | ⟨g, cap', cur, q1, q2, q3, _⟩⟩ := h
  · rw [q] at hb; cases hb
  · rw [q1] at hb
    have hb : some g = some b := hb
    injection hb with hb
    subst hb
    rw [q3] at hz
    injection hz with hz
    injection hz with _ hz
    revert hz
    decide
theorem KeepI.drew : KeepI w w.drew := KeepI.bel (drew_bel w)
theorem KeepI.al (o : Obj) : KeepI w (w.alloc o) := KeepI.bel (below_al (Below.refl _ _) o)
theorem zero_ints (k : Nat) : Builtin.zeroCells (Value.int .i64 0).cells k = (intV (List.replicate k 0)).toArray := by
  unfold Builtin.zeroCells intV
  refine Array.ext (by simp [Value.cells]) fun i h1 h2 => ?_
  simp [Value.cells, Nat.mod_one]
theorem intV_app (a b : List Int) : intV (a ++ b) = intV a ++ intV b := by unfold intV; rw [List.map_append]
theorem run_append_int (w : World) (S : Nat) (v : Value) (n : Nat) (h : IntS S w v n) (x : Int) (a : Addr) (c : Nat) (hx : w.cell? a = some (.int .i64 x)) (hn : n ≤ 1000000) (hS : S < w.heap.size) (ty : TypeId) :
    ∃ v' w', (Builtin.append_ #[42, 42] ty #[v, .slice (some a) 1 c]).run Tryd.prog w = .ok v' w' ∧ IntS S w' v' (n + 1) ∧ w.grownBy w' v.ownBlock ∧ KeepI w w' ∧ (v'.ownBlock = v.ownBlock ∨ v'.ownBlock = some w.heap.size) := by
  obtain ⟨i0, hi, hz0, hz1, hz2⟩ := info_parts infoInt
  have hnews : ∀ j u, [Value.int .i64 x][j]? = some u → w.cell? (a.add j) = some u := fun j u hj => by
    match j, hj with
    | 0, hj =>
      simp at hj
      subst hj
      exact hx
  have hl : [Value.int .i64 x].length = 1 * i0.size := by rw [hz1]; rfl
  have grown : ∀ (old : Nat) (zs : List Int), zs.length = n → ∀ row, IntS S (w.drew.alloc (.cells ((intV zs).toArray ++ [Value.int .i64 x].toArray ++ Builtin.zeroCells (Value.int .i64 0).cells (grownCap w (n + 1) old 3 - (n + 1))) 3)) (.slice (some ⟨w.heap.size, 0, none⟩) (n + 1) (grownCap w (n + 1) old 3)) (n + 1) ∧ w.grownBy (w.drew.alloc (.cells ((intV zs).toArray ++ [Value.int .i64 x].toArray ++ Builtin.zeroCells (Value.int .i64 0).cells (grownCap w (n + 1) old 3 - (n + 1))) 3)) row := by
    intro old zs hzs row
    have hge := grownCap_ge w (n + 1) old 3
    have hcm : grownCap w (n + 1) old 3 ≤ maxLen := grownCap_le_maxLen w (n + 1) old _ (by unfold maxLen; omega)
    refine ⟨.inr ⟨w.heap.size, _, rfl, hS, hge, hcm, zs ++ [x] ++ List.replicate (grownCap w (n + 1) old 3 - (n + 1)) 0, by simp [hzs]; omega, ?_⟩, ⟨rfl, rfl, rfl, by simp, fun k hk _ => heap_alloc_old w.drew _ (by exact hk)⟩⟩
    rw [zero_ints, intV_app, intV_app]
    have := heap_alloc_new w.drew (.cells ((intV zs).toArray ++ [Value.int .i64 x].toArray ++ (intV (List.replicate (grownCap w (n + 1) old 3 - (n + 1)) 0)).toArray) 3)
    refine this.trans ?_
    simp [intV]
  obtain ⟨rfl, rfl⟩ | ⟨g, cap, rfl, h1, h2, h3, zs, h4, h5⟩ := h
  · have hr := run_append_nil (P := Tryd.prog) w 42 ty 3 i0 _ Tryd.underlying42 hi hz0 a 1 c [.int .i64 x] hl hnews (by decide) (by decide) (by rw [hz2]; decide)
    obtain ⟨q1, q2⟩ := grown 0 [] rfl (Value.ownBlock (.slice none 0 0))
    simp only [Nat.zero_add, intV, List.map_nil, Array.empty_append] at q1 q2
    exact ⟨_, _, hr, q1, q2, KeepI.grown q2 (fun g cap e => by cases e), .inr rfl⟩
  · by_cases hroom : n + 1 ≤ cap
    · have hfit : n * i0.size + [Value.int .i64 x].length ≤ ((intV zs).toArray).size := by rw [hz1]; simp [intV_len]; omega
      have hr := run_append_room (P := Tryd.prog) w 42 ty 3 i0 Tryd.underlying42 hi g n cap _ h5 a 1 c [.int .i64 x] hl hnews (by intro u hu; simp at hu; subst hu; rfl) hroom hfit
      have hnew : IntB (w.setRow g ((intV zs).toArray.toList.take (n * i0.size) ++ [Value.int .i64 x] ++ (intV zs).toArray.toList.drop (n * i0.size + [Value.int .i64 x].length)).toArray) g cap := by
        refine ⟨zs.take n ++ [x] ++ zs.drop (n + 1), by simp; omega, ?_⟩
        rw [setRow_heap w g _ _ _ _ h5, hz1]
        simp [intV, List.map_take, List.map_drop]
      refine ⟨_, _, hr, .inr ⟨g, cap, rfl, h1, hroom, h3, hnew⟩, ⟨rfl, rfl, rfl, by simp, fun k _ hk => setRow_other w g k _ (fun e => hk (by simp [Value.ownBlock, e]))⟩, fun g' cap' h' => ?_, .inl rfl⟩
      by_cases e : g' = g
      · subst e
        obtain ⟨zs', q1, q2⟩ := h'
        rw [h5] at q2
        injection q2 with q2
        injection q2 with q2
        have hlen : zs'.length = zs.length := by
          have := congrArg Array.size q2
          simpa [intV_len] using this.symm
        have : cap' = cap := by omega
        rw [this]
        exact hnew
      · exact h'.same (setRow_other w g g' _ e)
    · have hw : w.ownsRow (S + 1) 3 1 (.slice (some ⟨g, 0, none⟩) n cap) n (intV (zs.take n)) := by
        refine ⟨by rw [intV_len, List.length_take]; omega, .inr ⟨g, cap, _, rfl, h1, h5, h2, h3, by simp [intV_len, h4], ?_⟩⟩
        simp only [Nat.mul_one]
        unfold intV
        rw [List.map_take]
      have hl0 : (intV (zs.take n)).length = n * i0.size := by rw [hz1, intV_len, List.length_take]; omega
      have hr := run_append_grow (P := Tryd.prog) w 42 ty 3 i0 _ Tryd.underlying42 hi hz0 ⟨g, 0, none⟩ n cap (intV (zs.take n)) hl0 (hw.cells (g := g) rfl) a 1 c [.int .i64 x] hl hnews (by omega) (by omega) (growslice_fits (by omega) (by rw [hz2]; omega))
      obtain ⟨q1, q2⟩ := grown cap (zs.take n) (by rw [List.length_take]; omega) (Value.ownBlock (.slice (some ⟨g, 0, none⟩) n cap))
      refine ⟨_, _, hr, q1, q2, KeepI.bel ⟨q2.os, q2.tape, q2.output, q2.size, fun k hk => heap_alloc_old w.drew _ (by exact hk)⟩, .inr rfl⟩
end
section
variable {P : Program}
theorem wpList_append_int {ops : Array Oper} {rest : List Oper} {o : Oper} {a : Act} {Q : Exit → Act → World → Prop} {w : World} (hgd : o.guard = none) (s y : Operand)
    (ho : o.op = .call { callee := .builtin .append, args := #[s, y], argTypes := #[42, 42] }) (S : Nat) (v : Value) (n : Nat) (hs : a.eval s = v) (h : IntS S w v n) (x : Int) (ad : Addr) (c : Nat) (hy : a.eval y = .slice (some ad) 1 c) (hx : w.cell? ad = some (.int .i64 x)) (hn : n ≤ 1000000) (hS : S < w.heap.size)
    (hk : ∀ v' w', IntS S w' v' (n + 1) → w.grownBy w' v.ownBlock → KeepI w w' → (v'.ownBlock = v.ownBlock ∨ v'.ownBlock = some w.heap.size) → wpList Tryd.prog ops Q rest (a.put o.dst v') w') : wpList Tryd.prog ops Q (o :: rest) a w := by
  refine wpList_plain hgd fun K hK => ?_
  obtain ⟨v', w', hr, h2, h3, h4, h5⟩ := run_append_int w S v n h x ad c hx hn hS o.type
  unfold Oper.wp execOp
  simp only [ho, resolve, invoke, builtin, Sem.run_bind, Sem.run_pure, Result.andThen_ok, List.map_toArray, List.map_cons, List.map_nil, hs, hy, hr]
  exact hK _ _ (hk v' w' h2 h3 h4 h5)
end
end Go.Proofs.YtjlkbmaigcgnbaaDoor
set_option linter.unusedVariables false
namespace Go.Proofs.YtjlkbmaigcgnbaaDoor
structure Pk (f : Nat → Int) (most : Int) (n : Nat) (L : List (List Nat)) : Prop where
  perm : L.flatten.Perm (List.range n)
  sum : ∀ ld ∈ L, (ld.map f).sum ≤ most
  ne : ∀ ld ∈ L, ld ≠ []
def sumF2 (f : Nat → Int) (n : Nat) : Int := ((List.range n).map f).sum
def aloneN (f : Nat → Int) (most : Int) (n : Nat) : Nat := (List.range n).countP fun i => decide (most < 2 * f i)
def boundN (f : Nat → Int) (most : Int) (n : Nat) : Int := max (max ((sumF2 f n + most - 1) / most) (aloneN f most n : Int)) (min (n : Int) 1)
theorem flat_sum (f : Nat → Int) : ∀ L : List (List Nat), (L.flatten.map f).sum = (L.map fun ld => (ld.map f).sum).sum
  | [] => rfl
  | x :: L => by rw [List.flatten_cons, List.map_append, List.sum_append, flat_sum f L, List.map_cons, List.sum_cons]
theorem sum_le_mul {α : Type} (g : α → Int) (m : Int) : ∀ L : List α, (∀ x ∈ L, g x ≤ m) → (L.map g).sum ≤ (L.length : Int) * m
  | [], _ => by simp
  | x :: L, h => by
    have h1 := sum_le_mul g m L (fun y hy => h y (by simp [hy]))
    have h2 := h x (by simp)
    rw [List.map_cons, List.sum_cons, List.length_cons, Int.natCast_add, Int.add_mul]
    omega
theorem sum_perm {a b : List Int} (h : a.Perm b) : a.sum = b.sum := by
  induction h with
  | nil => rfl
  | cons x _ ih => rw [List.sum_cons, List.sum_cons, ih]
  | swap x y l => simp only [List.sum_cons]; omega
  | trans _ _ h1 h2 => exact h1.trans h2
theorem Pk.total {f : Nat → Int} {most : Int} {n : Nat} {L : List (List Nat)} (h : Pk f most n L) : sumF2 f n ≤ (L.length : Int) * most := by
  unfold sumF2
  rw [← sum_perm (h.perm.map f), flat_sum]
  exact sum_le_mul _ _ _ h.sum
theorem heavy_sum (f : Nat → Int) (most : Int) (hp : 0 ≤ most) : ∀ ld : List Nat, (∀ i ∈ ld, 0 ≤ f i) → ((ld.countP fun i => decide (most < 2 * f i) : Nat) : Int) * (most + 1) ≤ 2 * (ld.map f).sum
  | [], _ => by simp
  | x :: ld, h => by
    have h1 := heavy_sum f most hp ld (fun i hi => h i (by simp [hi]))
    have h2 := h x (by simp)
    rw [List.countP_cons, List.map_cons, List.sum_cons]
    by_cases q : most < 2 * f x
    · rw [if_pos (decide_eq_true q), Int.natCast_add, Int.add_mul]
      omega
    · rw [if_neg (by rw [decide_eq_false q]; decide), Nat.add_zero]
      omega
theorem count_flat (p : Nat → Bool) : ∀ L : List (List Nat), (∀ ld ∈ L, ld.countP p ≤ 1) → L.flatten.countP p ≤ L.length
  | [], _ => by simp
  | x :: L, h => by
    have h1 := count_flat p L (fun y hy => h y (by simp [hy]))
    have h2 := h x (by simp)
    rw [List.flatten_cons, List.countP_append, List.length_cons]
    omega
theorem Pk.alone {f : Nat → Int} {most : Int} {n : Nat} {L : List (List Nat)} (h : Pk f most n L) (hm : 1 ≤ most) (hf : ∀ i, i < n → 0 ≤ f i) : aloneN f most n ≤ L.length := by
  unfold aloneN
  rw [← h.perm.countP_eq]
  refine count_flat _ L fun ld hld => ?_
  have h0 : ∀ i ∈ ld, 0 ≤ f i := fun i hi => hf i (by simpa using h.perm.mem_iff.1 (List.mem_flatten.2 ⟨ld, hld, hi⟩))
  have h1 := heavy_sum f most (by omega) ld h0
  have h2 := h.sum ld hld
  generalize (ld.countP fun i => decide (most < 2 * f i)) = c at h1 ⊢
  rcases Nat.lt_or_ge c 2 with q | q
  · omega
  · exfalso
    have h3 : (2 : Int) * (most + 1) ≤ (c : Int) * (most + 1) := Int.mul_le_mul_of_nonneg_right (by omega) (by omega)
    omega
theorem Pk.bound {f : Nat → Int} {most : Int} {n : Nat} {L : List (List Nat)} (h : Pk f most n L) (hm : 1 ≤ most) (hf : ∀ i, i < n → 0 ≤ f i) : boundN f most n ≤ (L.length : Int) := by
  have h1 := h.total
  have h2 := h.alone hm hf
  have h3 : min (n : Int) 1 ≤ (L.length : Int) := by
    rcases Nat.eq_zero_or_pos n with q | q
    · omega
    · have : L ≠ [] := fun e => by
        have := h.perm.length_eq
        rw [e] at this
        simp at this
        omega
      have := List.length_pos_iff.2 this
      omega
  have h4 : (sumF2 f n + most - 1) / most ≤ (L.length : Int) := by
    have h5 : sumF2 f n + most - 1 < ((L.length : Int) + 1) * most := by rw [Int.add_mul]; omega
    have := Int.ediv_lt_of_lt_mul (by omega) h5
    omega
  unfold boundN
  omega
theorem bound_mass {f : Nat → Int} {most : Int} {n : Nat} (hm : 1 ≤ most) : sumF2 f n ≤ boundN f most n * most := by
  have h1 : (sumF2 f n + most - 1) / most ≤ boundN f most n := by unfold boundN; omega
  have h2 := Int.mul_le_mul_of_nonneg_right h1 (show 0 ≤ most by omega)
  have h3 := Int.emod_add_mul_ediv (sumF2 f n + most - 1) most
  have h4 := Int.emod_lt_of_pos (sumF2 f n + most - 1) (show 0 < most by omega)
  rw [Int.mul_comm] at h3
  generalize (sumF2 f n + most - 1) / most * most = q at *
  omega
theorem GOk.pk {f : Nat → Int} {most : Int} {n : Nat} {o : List Nat} {s : List (List Nat) × List Int} (h : GOk f most s o) (ho : o.Perm (List.range n)) : Pk f most n s.1 where
  perm := h.perm.trans ho
  sum := fun ld hld => by
    obtain ⟨k, hk, rfl⟩ := List.getElem_of_mem hld
    have h1 := h.sums k hk
    obtain ⟨h2, h3⟩ := List.getElem?_eq_some_iff.1 h1
    rw [← h3]
    exact (h.le _ (List.getElem_mem h2)).2
  ne := h.ne
end Go.Proofs.YtjlkbmaigcgnbaaDoor
