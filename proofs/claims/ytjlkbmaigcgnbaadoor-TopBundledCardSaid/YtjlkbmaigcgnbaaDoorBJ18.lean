/- lorry: the heaviest first. lorry.Greedy: the greedy loads. Maps: a set of numbers; numbers by names. -/
import Derived.Test.YtjlkbmaigcgnbaaDoorBJ17
import Derived.Test.YtjlkbmaigcgnbaaDoorBJ05
set_option linter.unusedVariables false
namespace Go.Proofs.YtjlkbmaigcgnbaaDoor
open Go.ChangeShapes Go.WideShapes Go.ChangeAt Go.RowKit
set_option maxRecDepth 100000 in
set_option maxHeartbeats 1000000 in
theorem insZ_any (X : Nat) (w : World) :
    Calls Tryd.prog 82 #[.slice none 0 0, .int .i64 0, .int .i64 0, .func (.func 48) #[] #[.pointer (some ⟨X, 0, none⟩)]] w fun e w' => e = .returned (.tuple #[]) ∧ w = w' := by
  go_enter Tryd.func82, Tryd.ntmps82
  go_wp2_with fail
  go_loopg [8] 0 (fun g1 i wr => i = .int .i64 1 ∧ w = wr)
  case atStart => exact ⟨rfl, rfl⟩
  case round =>
    obtain ⟨rfl, rfl⟩ := hrel
    go_wp2_with fail
    go_end0
    exact ⟨rfl, rfl⟩
set_option maxRecDepth 100000 in
set_option maxHeartbeats 1000000 in
theorem insS_any (g cap X : Nat) (w : World) :
    Calls Tryd.prog 82 #[.slice (some ⟨g, 0, none⟩) 0 cap, .int .i64 0, .int .i64 0, .func (.func 48) #[] #[.pointer (some ⟨X, 0, none⟩)]] w fun e w' => e = .returned (.tuple #[]) ∧ w = w' := by
  go_enter Tryd.func82, Tryd.ntmps82
  go_wp2_with fail
  go_loopg [8] 0 (fun g1 i wr => i = .int .i64 1 ∧ w = wr)
  case atStart => exact ⟨rfl, rfl⟩
  case round =>
    obtain ⟨rfl, rfl⟩ := hrel
    go_wp2_with fail
    go_end0
    exact ⟨rfl, rfl⟩
set_option maxRecDepth 100000 in
set_option maxHeartbeats 1000000 in
theorem stable_core (v : Value) (n X : Nat) (hn : n < 20) (w : World) (Q : World → Prop)
    (HI : Hid (Calls Tryd.prog 82 #[v, .int .i64 0, .int .i64 (n : Int), .func (.func 48) #[] #[.pointer (some ⟨X, 0, none⟩)]] w fun e w' => e = .returned (.tuple #[]) ∧ Q w')) :
    Calls Tryd.prog 67 #[v, .int .i64 (n : Int), .func (.func 48) #[] #[.pointer (some ⟨X, 0, none⟩)]] w fun e w' => e = .returned (.tuple #[]) ∧ Q w' := by
  have e1 : decide ((20 : Int) ≤ (n : Int)) = false := decide_eq_false (by omega)
  have e2 : decide ((20 : Int) < (n : Int)) = false := decide_eq_false (by omega)
  go_enter Tryd.func67, Tryd.ntmps67
  go_wp2_with fail
  go_loopg [7, 8] 0 (fun g1 x i wr => x = .int .i64 0 ∧ i = .int .i64 20 ∧ w = wr)
  case atStart => exact ⟨rfl, rfl, rfl⟩
  case round =>
    obtain ⟨rfl, rfl, rfl⟩ := hrel
    go_wp2_with fail
    refine HI.out.mono ?_
    rintro e w1 ⟨rfl, hq⟩
    replace hq := Lib.hid hq
    go_wp2_with fail
    go_loopg [6] 0 (fun g1 i wr => i = .int .i64 20 ∧ w1 = wr)
    case atStart => exact ⟨rfl, rfl⟩
    case round =>
      obtain ⟨rfl, rfl⟩ := hrel
      go_wp2_with fail
      go_end0
      exact ⟨rfl, hq.out⟩
set_option maxRecDepth 100000 in
set_option maxHeartbeats 1000000 in
theorem sort_core (a : Option Addr) (n c X : Nat) (hn : n < 20) (w : World) (Q : World → Prop)
    (HI : Hid (Calls Tryd.prog 82 #[.slice a n c, .int .i64 0, .int .i64 (n : Int), .func (.func 48) #[] #[.pointer (some ⟨X, 0, none⟩)]] w fun e w' => e = .returned (.tuple #[]) ∧ Q w')) :
    Calls Tryd.prog 47 #[.slice a n c, .func (.func 48) #[] #[.pointer (some ⟨X, 0, none⟩)]] w fun e w' => e = .returned (.tuple #[]) ∧ Q w' := by
  have HS := Lib.hid (stable_core (.slice a n c) n X hn w Q HI)
  clear HI
  go_enter Tryd.func47, Tryd.ntmps47
  go_wp2_with fail
  refine HS.out.mono ?_
  rintro e w1 ⟨rfl, hq⟩
  replace hq := Lib.hid hq
  go_wp2_with fail
  go_end0
  exact ⟨rfl, hq.out⟩
set_option maxRecDepth 100000 in
set_option maxHeartbeats 1000000 in
theorem heaviest_any (l : List Bun) (a : Option Addr) (c : Nat) (hl : l.length ≤ c) (hn : l.length < 20) (hm : Hid (∀ j, 0 ≤ massN l j ∧ massN l j ≤ 1099511627776)) (w : World) (hr : RowAt encB 4 w.heap.size w a l) :
    Calls Tryd.prog 27 #[.slice a l.length c] w fun e w' => (∃ v, e = .returned v ∧ w'.ownsRow w.heap.size 3 1 v l.length (natV (ordN (massN l) l.length))) ∧ Below w.heap.size w w' := by
  obtain ⟨i0, hi, hz0, hz1, hz2⟩ := info_parts infoInt
  obtain ⟨n, hn'⟩ : ∃ n, l.length = n := ⟨_, rfl⟩
  rw [hn'] at hl hn ⊢
  have HSo : Hid (∀ (W : World) (v : Value) (X : Nat), Below w.heap.size w W → X < W.heap.size → w.heap.size ≤ X → W.cell? ⟨X, 0, none⟩ = some (.slice a n c) → ∀ W2, Below W.heap.size W W2 → W2.ownsRow W.heap.size 3 1 v n (natV (List.range n)) → Calls Tryd.prog 47 #[v, .func (.func 48) #[] #[.pointer (some ⟨X, 0, none⟩)]] W2 fun e w' => e = .returned (.tuple #[]) ∧ (w'.ownsRow W.heap.size 3 1 v n (natV (ordN (massN l) n)) ∧ Below W.heap.size W2 w')) := Lib.hid fun W v X hW hX hX2 kx W2 hW2 ho => by
    have hrW : RowAt encB 4 W.heap.size W2 a l := ((hr.bel (Nat.le_refl _) hW).mono hW.size).bel (Nat.le_refl _) hW2
    by_cases h0 : n = 0
    · have hv : v = .slice none 0 0 ∨ ∃ g cap, v = .slice (some ⟨g, 0, none⟩) n cap := by
        obtain ⟨_, ⟨h1, h2⟩ | ⟨g, cap, cur, h1, _⟩⟩ := ho
        · exact .inl h1
        · exact .inr ⟨g, cap, h1⟩
      rcases hv with rfl | ⟨g, cap, rfl⟩
      · subst h0
        refine sort_core none 0 0 X (by omega) W2 _ (Lib.hid ((insZ_any X W2).mono ?_))
        rintro e w' ⟨rfl, rfl⟩
        exact ⟨rfl, World.ownsRow_nil _ _ _ _, Below.refl _ _⟩
      · subst h0
        refine sort_core _ 0 cap X (by omega) W2 _ (Lib.hid ((insS_any g cap X W2).mono ?_))
        rintro e w' ⟨rfl, rfl⟩
        exact ⟨rfl, ho, Below.refl _ _⟩
    · obtain ⟨g, cap, rfl, _⟩ := own_some ho (by omega)
      exact sort_core _ n cap X hn W2 _ (Lib.hid (ins_any l a c X W.heap.size g cap n W2 hn' (by omega) (by omega) hl hm hX ((hW2.cell (p := ⟨X, 0, none⟩) hX).trans kx) hrW hW2.size ho))
  have hn3 := hn
  clear hr hm hn'
  generalize massN l = f at *
  go_enter Tryd.func27, Tryd.ntmps27
  go_wp2_with fail
  generalize hWW : World.alloc w _ = WW
  have kx : At WW w.heap.size 25 #[.slice a n c] := by rw [← hWW]; exact At.new' rfl
  have HB : Below w.heap.size w WW := by rw [← hWW]; exact below_al (Below.refl _ _) _
  clear hWW
  have x0 : WW.cell? ⟨w.heap.size, 0, none⟩ = some (.slice a n c) := kx.c 0
  have hXl := Lib.hid kx.lt
  clear kx
  have hx00 := Lib.hid x0
  go_wp2_with fail
  go_loopg [7, 3] n (fun g i u wr => ∃ (k : Nat) (u0 : Value), u0 = u ∧ k ≤ n ∧ i = .int .i64 (k : Int) ∧ Hid (g = n - k) ∧ Below WW.heap.size WW wr ∧ Hid (wr.ownsRow WW.heap.size 3 1 u k (natV (List.range k))))
  case atStart => exact ⟨0, _, rfl, Nat.zero_le _, rfl, Lib.hid rfl, Below.refl _ _, Lib.hid (World.ownsRow_nil _ _ _ _)⟩
  case round =>
    clear x0
    obtain ⟨k, u, rfl, hk, rfl, hr, HB2, ho⟩ := hrel
    have x0 : wr.cell? ⟨w.heap.size, 0, none⟩ = some (.slice a n c) := cell_up HB2 hx00.out
    by_cases hlt : k < n
    · have hran : natV (List.range (k + 1)) = natV (List.range k) ++ [.int .i64 (k : Int)] := by rw [List.range_succ, natV_app]; rfl
      go_wp2_with (at_builtin; refine wpList_append_own_at _ rfl _ _ 42 rfl WW.heap.size 3 i0 (.int .i64 0) 1 8 Tryd.underlying42 hi hz0 hz1 hz2 rfl (by decide) _ _ _ rfl (World.ownsRow.alloc ho.out _) ⟨wr.heap.size, 0, none⟩ 1 1 [.int .i64 (k : Int)] rfl rfl (cell_one_new _ _ _) (by intro u hu; simp at hu; subst hu; rfl) (by unfold maxLen; omega) (by omega) (by have := HB2.size; simp; omega) ?_)
      intro v' w5 ho1 hg1 hnil hloc
      have hb1 : Below WW.heap.size WW w5 := below_grown HB2 ((World.grownBy_alloc _ _ _).trans hg1) (fun b hb => (own_lt ho.out hb).2)
      have ho2 : Hid (w5.ownsRow WW.heap.size 3 1 v' (k + 1) (natV (List.range (k + 1)))) := Lib.hid (by rw [hran]; exact ho1)
      clear hg1 hnil hloc ho1 x0 ho
      go_wp2_with fail
      go_roundg (n - (k + 1))
      case measure => have := hr.out; omega
      case rel => exact ⟨k + 1, _, rfl, by omega, by go_num, Lib.hid rfl, hb1, ho2⟩
    · have hkn : k = n := by omega
      subst hkn
      have HS := Lib.hid (HSo.out WW u w.heap.size HB hXl.out (Nat.le_refl _) hx00.out wr HB2 ho.out)
      clear HSo ho
      go_wp2_with fail
      refine HS.out.mono ?_
      rintro e w4 ⟨rfl, ho4, hb4⟩
      have ho5 := Lib.hid (own_weak ho4 HB.size)
      have HB4 : Below w.heap.size w w4 := below_then HB (HB2.trans hb4)
      clear HS ho4 hb4 x0
      go_wp2_with fail
      go_ret
      exact ⟨⟨u, rfl, ho5.out⟩, HB4⟩
end Go.Proofs.YtjlkbmaigcgnbaaDoor
set_option linter.unusedVariables false
namespace Go.Proofs.YtjlkbmaigcgnbaaDoor
open Go.ChangeShapes Go.WideShapes Go.ChangeAt Go.RowKit
theorem infoIS : (Tryd.prog.info? 42).map (fun i => (i.zero, i.size, i.bytes)) = some (some (.slice none 0 0), 1, 24) := by kernel_rfl
set_option maxRecDepth 100000 in
set_option maxHeartbeats 1000000 in
theorem greedF_any (l : List Bun) (a : Option Addr) (c : Nat) (i X Y Z : Nat) (n most : Int) (hi : i < l.length) (hc : l.length ≤ c) (B : Nat) (w : World) (hn : 0 ≤ n ∧ n ≤ 1099511627776) (hm : 0 ≤ massN l i ∧ massN l i ≤ 1099511627776) (kx : w.cell? ⟨X, 0, none⟩ = some (.slice a l.length c)) (kz : w.cell? ⟨Z, 0, none⟩ = some (.int .i64 (i : Int))) (ky : w.cell? ⟨Y, 0, none⟩ = some (.int .i64 most)) (hr : Hid (RowAt encB 4 B w a l)) :
    Calls Tryd.prog 29 #[.int .i64 n, .pointer (some ⟨X, 0, none⟩), .pointer (some ⟨Z, 0, none⟩), .pointer (some ⟨Y, 0, none⟩)] w fun e w' => e = .returned (.bool (decide (n + massN l i ≤ most))) ∧ Below w.heap.size w w' := by
  obtain ⟨b, off, rfl, -, -, -, c3, -⟩ := hr.out.bun i hi
  have hmi : massN l i = l[i].mass := by unfold massN; rw [List.getElem?_eq_getElem hi]
  rw [hmi] at hm ⊢
  generalize l[i].mass = x at *
  generalize l.length = ln at *
  obtain ⟨S, hS⟩ : ∃ S, n + x = S := ⟨_, rfl⟩
  have u1 : IntKind.i64.wrap (n + x) = S := by rw [hS, IntWalk.i64_in _ (by omega)]
  rw [hS]
  clear hS hmi hm hn
  have K0 := cell_regrown kx
  have K1 := cell_regrown ky
  have K2 := cell_regrown kz
  have K3 := cell_regrown c3
  go_enter Tryd.func29, Tryd.ntmps29
  go_upto_region 1 with fail
  refine wp_region_quiet_below (by kernel_rfl) (by kernel_rfl) ?_
  repeat (go_big_quiet_step (fail))
  refine wpQuiet_nil ?_
  intro v1 hb'
  have hb := below_of_regrown hb'
  clear hb' K0 K1 K2 K3
  go_wp2_with fail
  go_ret
  exact ⟨rfl, hb⟩
theorem set_mod (l : List Int) (k : Nat) (hk : k < l.length) (z y : Int) (hz : l[k]? = some z) : l.set k (z + y) = l.modify k (· + y) := by
  refine List.ext_getElem? fun j => ?_
  rw [List.getElem?_modify, List.getElem?_set]
  by_cases q : k = j
  · subst q
    rw [if_pos rfl, if_pos hk, hz]
    simp
  · rw [if_neg q]
    simp [q]
structure GivK (l : List Bun) (most : Int) : Prop where
  pos : 1 ≤ most ∧ most ≤ 1099511627776
  mass : ∀ j, 0 ≤ massN l j ∧ massN l j ≤ 1099511627776
  fit : ∀ i, i < l.length → 0 ≤ massN l i ∧ massN l i ≤ most
  val : bunV l = true
theorem givK {l : List Bun} {most : Int} (h : givE l most = 0) : GivK l most := by
  unfold givE at h
  cases hv : bunV l
  · rw [if_pos hv] at h; cases h
  rw [if_neg (by rw [hv]; decide)] at h
  cases hw : (decide (1 ≤ most) && decide (most ≤ 1099511627776))
  · rw [if_pos hw] at h; cases h
  rw [if_neg (by rw [hw]; decide)] at h
  simp only [Bool.and_eq_true, decide_eq_true_eq] at hw
  cases ho : (l.any fun b => decide (most < b.mass))
  rotate_left
  · rw [if_pos ho] at h; cases h
  have hok : ∀ b ∈ l, 0 ≤ b.mass ∧ b.mass ≤ 1099511627776 ∧ b.mass ≤ most := fun b hb => by
    have h1 := List.any_eq_false.1 ho b hb
    have h2 := hv
    unfold bunV at h2
    simp only [Bool.and_eq_true, decide_eq_true_eq] at h2
    have h3 := List.all_eq_true.1 h2.1.2 b hb
    unfold bunOk at h3
    simp only [Bool.and_eq_true, decide_eq_true_eq] at h3
    simp at h1
    exact ⟨h3.1.2, h3.2, h1⟩
  have hf : ∀ i, i < l.length → massN l i ∈ l.map (·.mass) := fun i hi => by
    unfold massN
    rw [List.getElem?_eq_getElem hi]
    exact List.mem_map.2 ⟨_, List.getElem_mem hi, rfl⟩
  refine ⟨hw, fun j => ?_, fun i hi => ?_, hv⟩
  · by_cases hj : j < l.length
    · obtain ⟨b, hb, e⟩ := List.mem_map.1 (hf j hj)
      have := hok b hb
      rw [← e]
      omega
    · unfold massN
      rw [List.getElem?_eq_none (by omega)]
      exact ⟨Int.le_refl _, by decide⟩
  · obtain ⟨b, hb, e⟩ := List.mem_map.1 (hf i hi)
    have := hok b hb
    rw [← e]
    omega
end Go.Proofs.YtjlkbmaigcgnbaaDoor
set_option linter.unusedVariables false
namespace Go.Proofs.YtjlkbmaigcgnbaaDoor
open Go.ChangeShapes Go.WideShapes Go.ChangeAt Go.RowKit Go.Maps Go.ChangeMaps Go.WideMaps
theorem key_int : Keyed Tryd.prog 3 := int_keyed Tryd.underlying3
theorem wf_int {x : Int} (h : -9223372036854775808 ≤ x ∧ x ≤ 9223372036854775807) : (Lit.int .i64 x).wf = true := by
  simp only [Lit.wf, Bool.and_eq_true, decide_eq_true_eq]
  exact h
theorem keyZ_of (x : Int) (h : -9223372036854775808 ≤ x ∧ x ≤ 9223372036854775807) : keyOf Tryd.prog 3 (.int .i64 x) = some (.int .i64 x) := keyOf_int_mk Tryd.underlying3 (wf_int h)
theorem litZ_ne {a b : Int} (h : a ≠ b) : (Lit.int .i64 a) ≠ Lit.int .i64 b := fun e => h (by injection e)
theorem keyZ_lit {a : Int} : WideAt.IsKeyLit (Lit.int .i64 a) := trivial
def SeenZ (w : World) (m n : Nat) (acc : List Int) : Prop :=
  ∃ D : DataW Unit, w.ownsMap Tryd.prog 3 (plainElem Tryd.prog 4) m n D ∧ (∀ s : Int, D.atKey (.int .i64 s) (.lit (.bool false)) = .lit (.bool (decide (s ∈ acc)))) ∧ (∀ s : Int, Maps.has D (.int .i64 s) = decide (s ∈ acc)) ∧ Maps.size D = acc.length
section
variable {w w' : World} {m n : Nat} {acc : List Int}
theorem SeenZ.same (h : SeenZ w m n acc) (hb : w'.heap[m]? = w.heap[m]?) : SeenZ w' m n acc := by
  obtain ⟨D, h1, h2⟩ := h
  exact ⟨D, ownsMap_bel h1 hb, h2⟩
theorem SeenZ.lt (h : SeenZ w m n acc) : m < w.heap.size := by
  obtain ⟨D, h1, h2⟩ := h
  exact h1.lt
theorem SeenZ.bel (h : SeenZ w m n acc) (hb : Below w.heap.size w w') : SeenZ w' m n acc := h.same (hb.block m h.lt)
theorem SeenZ.look (h : SeenZ w m n acc) (s : Int) (hs : -9223372036854775808 ≤ s ∧ s ≤ 9223372036854775807) : (Instr.lookup 74 (.map (some m)) (.int .i64 s) false).run Tryd.prog w = .ok (.bool (decide (s ∈ acc))) w := by
  obtain ⟨D, h1, h2, -⟩ := h
  obtain ⟨v, ps, hrun, hv⟩ := h1.lookup key_int Tryd.underlying74 (zero_bool w) (plainElem_bool Tryd.underlying4 false) (keyZ_of s hs)
  rw [h2 s] at hv
  rw [plainElem_bool_inv Tryd.underlying4 hv] at hrun
  exact hrun
theorem SeenZ.made (w : World) : SeenZ (w.alloc (.map #[] 0)) w.heap.size 0 [] := ⟨_, World.ownsMap_made w _ _ _, fun s => by simp [DataW.atKey], fun s => by simp [Maps.has], rfl⟩
theorem SeenZ.len (h : SeenZ w m n acc) (ty : TypeId) : (Builtin.len_ #[74] ty #[.map (some m)]).run Tryd.prog w = .ok (.int .i64 (acc.length : Int)) w := by
  obtain ⟨D, h1, -, -, h4⟩ := h
  rw [← h4]
  exact h1.len Tryd.underlying74 ty
end
theorem seenZ_put {D : DataW Unit} {w : World} {m n : Nat} {acc : List Int} {x : Int} (h : w.ownsMap Tryd.prog 3 (plainElem Tryd.prog 4) m n (D.put (.int .i64 x) (.lit (.bool true)))) (hD : IsMap D) (hT : Maps.Tidy D) (h2 : ∀ s : Int, D.atKey (.int .i64 s) (.lit (.bool false)) = .lit (.bool (decide (s ∈ acc)))) (h3 : ∀ s : Int, Maps.has D (.int .i64 s) = decide (s ∈ acc)) (h4 : Maps.size D = acc.length) (hx : ¬ x ∈ acc) : SeenZ w m n (acc ++ [x]) := by
  refine ⟨_, h, fun s => ?_, fun s => ?_, ?_⟩
  · by_cases e : s = x
    · subst e
      rw [atKey_put_same hD keyZ_lit]
      simp
    · rw [atKey_put_other (litZ_ne e), h2 s]
      simp [e]
  · by_cases e : s = x
    · subst e
      rw [has_put_same hD keyZ_lit]
      simp
    · rw [has_put_other (litZ_ne e), h3 s]
      simp [e]
  · rw [Maps.size_put hT, h3 x, decide_eq_false hx, h4]
    simp
def FunS (w : World) (m n : Nat) (F : ByteArray → Option Int) : Prop :=
  ∃ D : DataW Unit, w.ownsMap Tryd.prog 9 (plainElem Tryd.prog 3) m n D ∧ ∀ s : ByteArray, Maps.has D (.string s.data.toList) = (F s).isSome ∧ D.atKey (.string s.data.toList) (.lit (.int .i64 0)) = .lit (.int .i64 ((F s).getD 0))
section
variable {w w' : World} {m n : Nat} {F : ByteArray → Option Int}
theorem FunS.same (h : FunS w m n F) (hb : w'.heap[m]? = w.heap[m]?) : FunS w' m n F := by
  obtain ⟨D, h1, h2⟩ := h
  exact ⟨D, ownsMap_bel h1 hb, h2⟩
theorem FunS.lt (h : FunS w m n F) : m < w.heap.size := by
  obtain ⟨D, h1, h2⟩ := h
  exact h1.lt
theorem FunS.bel (h : FunS w m n F) (hb : Below w.heap.size w w') : FunS w' m n F := h.same (hb.block m h.lt)
theorem FunS.made (w : World) : FunS (w.alloc (.map #[] 0)) w.heap.size 0 (fun _ => none) := ⟨_, World.ownsMap_made w _ _ _, fun s => ⟨by simp [Maps.has], by simp [DataW.atKey]⟩⟩
theorem FunS.look (h : FunS w m n F) (s : ByteArray) (hs : s.size ≤ maxLen) : (Instr.lookup 65 (.map (some m)) (.string s) false).run Tryd.prog w = .ok (.int .i64 ((F s).getD 0)) w := by
  obtain ⟨D, h1, h2⟩ := h
  obtain ⟨v, ps, hrun, hv⟩ := h1.lookup key_str Tryd.underlying65 (zero_int w) (plainElem_int Tryd.underlying3 (by decide)) (key_of s hs)
  obtain ⟨c, rfl, hc, _⟩ := plainElem_int_inv Tryd.underlying3 hv
  rw [(h2 s).2] at hc
  simp only [Prod.mk.injEq, DataW.lit.injEq, Lit.int.injEq, true_and] at hc
  rw [hrun, hc.1]
theorem FunS.look_ok (h : FunS w m n F) (s : ByteArray) (hs : s.size ≤ maxLen) : (Instr.lookup 65 (.map (some m)) (.string s) true).run Tryd.prog w = .ok (.tuple #[.int .i64 ((F s).getD 0), .bool (F s).isSome]) w := by
  obtain ⟨D, h1, h2⟩ := h
  obtain ⟨v, ps, hrun, hv⟩ := h1.look_ok key_str Tryd.underlying65 (zero_int w) (plainElem_int Tryd.underlying3 (by decide)) (key_of s hs)
  obtain ⟨c, rfl, hc, _⟩ := plainElem_int_inv Tryd.underlying3 hv
  rw [(h2 s).1] at hrun
  rw [(h2 s).2] at hc
  simp only [Prod.mk.injEq, DataW.lit.injEq, Lit.int.injEq, true_and] at hc
  rw [hrun, hc.1]
end
theorem funS_put {D : DataW Unit} {w : World} {m n : Nat} {F : ByteArray → Option Int} {x : ByteArray} {y : Int} (h : w.ownsMap Tryd.prog 9 (plainElem Tryd.prog 3) m n (D.put (.string x.data.toList) (.lit (.int .i64 y)))) (hD : IsMap D) (h2 : ∀ s : ByteArray, Maps.has D (.string s.data.toList) = (F s).isSome ∧ D.atKey (.string s.data.toList) (.lit (.int .i64 0)) = .lit (.int .i64 ((F s).getD 0))) : FunS w m n (fun s => if s = x then some y else F s) := by
  refine ⟨_, h, fun s => ?_⟩
  by_cases e : s = x
  · subst e
    rw [atKey_put_same hD key_lit, has_put_same hD key_lit]
    simp
  · rw [atKey_put_other (lit_ne e), has_put_other (lit_ne e), (h2 s).1, (h2 s).2]
    simp [e]
end Go.Proofs.YtjlkbmaigcgnbaaDoor
