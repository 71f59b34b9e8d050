/- lorry: the heaviest first: the sort by insertion. lorry: the heaviest first. lorry.Greedy: the greedy loads. -/
import Derived.Test.YtcokobdffbhpeaaGreatDoorCJ18
import Derived.Test.YtcokobdffbhpeaaGreatDoorCJ13
set_option linter.unusedVariables false
namespace Go.Proofs.YtcokobdffbhpeaaGreatDoor
open Go.ChangeShapes Go.WideShapes Go.ChangeAt Go.RowKit
theorem swap_a (A R : List Value) (x y : Value) : ((A ++ y :: x :: R).set (A.length + 1) y).set A.length x = A ++ x :: y :: R := by
  simp
theorem ord_one (f : Nat → Int) {n : Nat} (h : 1 ≤ n) : ordN f 1 ++ (List.range n).drop 1 = List.range n := by
  have e : ordN f 1 = [0] := rfl
  obtain ⟨m, rfl⟩ : ∃ m, n = m + 1 := ⟨n - 1, by omega⟩
  rw [e, List.range_succ_eq_map]
  rfl
theorem own_at {w : World} {base g n cap : Nat} {e : TypeId} {xs : List Value} (h : w.ownsRow base e 1 (.slice (some ⟨g, 0, none⟩) n cap) n xs) : (∀ i, w.frozen? ⟨g, i, none⟩ = false) ∧ ∀ (k : Nat) (u : Value), xs[k]? = some u → w.cell? ⟨g, k, none⟩ = some u := by
  obtain ⟨hl, ⟨h1, h2⟩ | ⟨g', cap', cur, h1, h2, h3, h4, h5, h6, h7⟩⟩ := h
  · cases h1
  · simp only [Value.slice.injEq, Option.some.injEq, Addr.mk.injEq, and_true, true_and] at h1
    obtain ⟨rfl, rfl⟩ := h1
    refine ⟨fun i => by simp [World.frozen?, h3], fun k u hu => ?_⟩
    have hk := (List.getElem?_eq_some_iff.1 hu).1
    have hc := cell_of_row w g k cur e (0, 0) h3
    rw [hc]
    rw [← h7, List.getElem?_take_of_lt (by omega)] at hu
    rw [← hu]
    simp
theorem natV_app (a b : List Nat) : natV (a ++ b) = natV a ++ natV b := by unfold natV; rw [List.map_append]
theorem natV_cons (a : Nat) (b : List Nat) : natV (a :: b) = .int .i64 (a : Int) :: natV b := rfl
set_option maxRecDepth 100000 in
set_option maxHeartbeats 2000000 in
theorem ins_any (l : List Bun) (a : Option Addr) (c : Nat) (X base g cap n : Nat) (w : World) (hn : l.length = n) (hn1 : 1 ≤ n) (hn2 : n ≤ 1000000) (hc : n ≤ c) (hm : Hid (∀ j, 0 ≤ massN l j ∧ massN l j ≤ 1099511627776)) (hX : X < base) (kx : w.cell? ⟨X, 0, none⟩ = some (.slice a n c)) (hr : RowAt encB 4 base w a l)
    (hbs : base ≤ w.heap.size) (ho : w.ownsRow base 3 1 (.slice (some ⟨g, 0, none⟩) n cap) n (natV (List.range n))) :
    Calls Tryz.prog 78 #[.slice (some ⟨g, 0, none⟩) n cap, .int .i64 0, .int .i64 (n : Int), .func (.func 41) #[] #[.pointer (some ⟨X, 0, none⟩)]] w fun e w' => e = .returned (.tuple #[]) ∧ w'.ownsRow base 3 1 (.slice (some ⟨g, 0, none⟩) n cap) n (natV (ordN (massN l) n)) ∧ Below base w w' := by
  have HC := Lib.hid (fun (i k : Nat) (hi : i < n) (hk : k < n) (W : World) (hW : Below base w W) => cmpF_any l a c i k X (by rw [hn]; exact hi) (by rw [hn]; exact hk) base W (by rw [hn]; exact hc) hm (by rw [hn]; exact (hW.cell (p := ⟨X, 0, none⟩) hX).trans kx) (Lib.hid (fun q hq => by
    obtain ⟨b, off, e, hlt, hcc⟩ := hr q hq
    exact ⟨b, off, e, hlt, fun j u hu => (hW.cell hlt).trans (hcc j u hu)⟩)))
  have hg := (own_lt ho (b := g) rfl).2
  have ho0 := Lib.hid ho
  have hcap : n ≤ cap ∧ cap ≤ 9223372036854775807 := by
    obtain ⟨g', cap', e, h1, h2, _⟩ := own_some ho (by omega)
    injection e with e1 e2 e3
    subst e3
    exact ⟨h1, h2⟩
  generalize massN l = f at *
  clear hn hr kx ho
  go_enter Tryz.func78, Tryz.ntmps78
  go_wp2_with fail
  go_loopg [8] n (fun g1 i wr => ∃ k : Nat, 1 ≤ k ∧ k ≤ n ∧ i = .int .i64 (k : Int) ∧ Hid (g1 = n + 1 - k) ∧ Below base w wr ∧ Hid (wr.ownsRow base 3 1 (.slice (some ⟨g, 0, none⟩) n cap) n (natV (ordN f k ++ (List.range n).drop k))))
  case atStart => exact ⟨1, Nat.le_refl _, hn1, rfl, Lib.hid (by omega), Below.refl _ _, Lib.hid (by rw [ord_one f hn1]; exact ho0.out)⟩
  case round =>
    clear ho0
    obtain ⟨k, hk1, hk, rfl, hr, HB, ho⟩ := hrel
    by_cases hlt : k < n
    · have hdr : Hid ((List.range n).drop k = k :: (List.range n).drop (k + 1)) := Lib.hid (by
        rw [List.drop_eq_getElem_cons (by simpa using hlt)]
        simp)
      obtain ⟨RR, hRR⟩ : ∃ RR, (List.range n).drop (k + 1) = RR := ⟨_, rfl⟩
      rw [hRR] at hdr
      have hst0 : Hid (wr.ownsRow base 3 1 (.slice (some ⟨g, 0, none⟩) n cap) n (natV (ordN f k ++ k :: ([] ++ RR)))) := Lib.hid (by rw [List.nil_append, ← hdr.out]; exact ho.out)
      have hol : Hid ((ordN f k).length = k ∧ ∀ y ∈ ordN f k, y < n) := Lib.hid ⟨ordN_len f k, fun y hy => Nat.lt_trans (ordN_lt hy) hlt⟩
      replace hRR := Lib.hid hRR
      clear ho hdr
      have HB0 := HB
      go_wp2_with fail
      go_loopg [9] k (fun g1 i wq => ∃ (j : Nat) (A B : List Nat), j ≤ k ∧ i = .int .i64 (j : Int) ∧ Hid (g1 = j ∧ A.length = j ∧ (∀ y ∈ A, y < n) ∧ A.length + B.length = k) ∧ Hid (InsAt f k A B (ordN f (k + 1))) ∧ Below base w wq ∧ Hid (wq.ownsRow base 3 1 (.slice (some ⟨g, 0, none⟩) n cap) n (natV (A ++ k :: (B ++ RR)))))
      case atStart => exact ⟨k, ordN f k, [], Nat.le_refl _, rfl, Lib.hid ⟨rfl, hol.out.1, hol.out.2, by simp [hol.out.1]⟩, Lib.hid (InsAt.start f k), HB, hst0⟩
      case round =>
        clear HB hst0 hol HB0
        obtain ⟨j, A, B, hj, rfl, hr2, hI, HB, ho⟩ := hrel
        rcases List.eq_nil_or_concat A with hA | ⟨A', y, hA⟩
        · have hj0 : j = 0 := by have := hr2.out.2.1; rw [hA] at this; exact this.symm
          subst hj0
          have hfin : Hid (wr.ownsRow base 3 1 (.slice (some ⟨g, 0, none⟩) n cap) n (natV (ordN f (k + 1) ++ (List.range n).drop (k + 1)))) := Lib.hid (by
            have h1 := ho.out
            rw [hA] at h1
            have h2 := hI.out
            rw [hA] at h2
            rw [← h2.zero, hRR.out]
            exact h1)
          clear hA
          go_upto_region 4 with fail
          refine wp_region_quiet_below (by kernel_rfl) (by kernel_rfl) ?_
          repeat (go_big_quiet_step (fail))
          refine wpQuiet_nil ?_
          intro v1 hb'
          have hb := below_of_regrown hb'
          have ho1 := Lib.hid (World.ownsRow_up hfin.out hb)
          have HB1 : Below base w v1 := HB.trans (hb.mono (Nat.le_trans hbs HB.size))
          clear hb' hb hfin ho HB
          go_wp2_with fail
          go_roundg (n + 1 - (k + 1))
          case measure => have := hr.out; omega
          case rel => exact ⟨k + 1, by omega, by omega, by go_num, Lib.hid rfl, HB1, ho1⟩
        · rw [List.concat_eq_append] at hA
          subst hA
          obtain ⟨j2, rfl⟩ : ∃ j2, j = j2 + 1 := ⟨A'.length, by have := hr2.out.2.1; simp at this; omega⟩
          have hl2 : Hid (A'.length = j2) := Lib.hid (by have := hr2.out.2.1; simp at this; omega)
          have hyn : y < n := hr2.out.2.2.1 y (by simp)
          have hform : natV ((A' ++ [y]) ++ k :: (B ++ RR)) = natV A' ++ .int .i64 (y : Int) :: .int .i64 (k : Int) :: natV (B ++ RR) := by
            rw [natV_app, natV_app, natV_cons, natV_cons, List.append_assoc]; rfl
          rw [hform] at ho
          obtain ⟨hfr, hcell⟩ := own_at ho.out
          have hl3 : (natV A').length = j2 := by rw [natV_len]; exact hl2.out
          have c1 : wr.cell? ⟨g, j2, none⟩ = some (.int .i64 (y : Int)) := hcell j2 _ (by rw [List.getElem?_append_right (by omega), hl3]; simp)
          have c2 : wr.cell? ⟨g, j2 + 1, none⟩ = some (.int .i64 (k : Int)) := hcell (j2 + 1) _ (by rw [List.getElem?_append_right (by omega), hl3, show j2 + 1 - j2 = 1 by omega]; rfl)
          have f1 := hfr j2
          have f2 := hfr (j2 + 1)
          have HCk := Lib.hid (fun (W : World) (hW : Below wr.heap.size wr W) => HC.out k y hlt hyn W (HB.trans (hW.mono (Nat.le_trans hbs HB.size))))
          have u1 : IntKind.i64.wrap (((j2 + 1 : Nat) : Int) - 1) = (j2 : Int) := by rw [IntWalk.i64_in _ (by omega)]; omega
          have u3 : IntKind.i64.wrap (j2 : Int) = (j2 : Int) := IntWalk.i64_in _ (by omega)
          have u4 : j2 < n := by omega
          have u5 : j2 + 1 < n := by omega
          have u6 : (0 : Int) ≤ (j2 : Int) + 1 := by omega
          have u7 : (j2 : Int) + 1 < (n : Int) := by omega
          have u2 : decide ((0 : Int) < ((j2 + 1 : Nat) : Int)) = true := decide_eq_true (by omega)
          have K0 := cell_regrown c1
          have K1 := cell_regrown c2
          by_cases q : f y < f k
          · have g5 : decide (f y - f k < 0) = true := decide_eq_true (by omega)
            have hI2 := Lib.hid (hI.out.go q)
            clear q
            go_upto_region 4 with fail
            refine wp_region_quiet_below (by kernel_rfl) (by kernel_rfl) ?_
            repeat (go_big_quiet_step ((first | with_reducible exact regrown_call_at HCk.out)))
            refine wpQuiet_nil ?_
            intro v1 hb'
            have hb := below_of_regrown hb'
            have HB1 : Below base w v1 := HB.trans (hb.mono (Nat.le_trans hbs HB.size))
            have ho1 := Lib.hid (World.ownsRow_up ho.out hb)
            have d1 := cell_up hb c1
            have d2 := cell_up hb c2
            obtain ⟨hfr2, -⟩ := own_at ho1.out
            have f3 := hfr2 j2
            have f4 := hfr2 (j2 + 1)
            clear hb' hb K0 K1 c1 c2 f1 f2 hfr hfr2 hcell HB ho hI g5
            go_upto_region 6 with fail
            go_region_law (first | fail)
            all_goals
              have ho2 := own_put (own_put ho1.out (g := g) rfl u5 (.int .i64 (y : Int))) (g := g) rfl u4 (.int .i64 (k : Int))
              rw [← hl3, swap_a, hl3, show natV A' ++ Value.int .i64 (k : Int) :: Value.int .i64 (y : Int) :: natV (B ++ RR) = natV (A' ++ k :: ((y :: B) ++ RR)) by unfold natV; simp] at ho2
              have HB2 : Below base w ((v1.setCell ⟨g, j2 + 1, none⟩ (.int .i64 (y : Int))).setCell ⟨g, j2, none⟩ (.int .i64 (k : Int))).drew := ((HB1.setCell hg _).setCell hg _).trans ((drew_bel _).mono (by simp; exact Nat.le_trans hbs HB1.size))
              have ho2' := World.ownsRow.drew ho2
              generalize hWW : World.drew _ = W5 at ho2' HB2 ⊢
              have ho3 : Hid (W5.ownsRow base 3 1 (.slice (some ⟨g, 0, none⟩) n cap) n (natV (A' ++ k :: ((y :: B) ++ RR)))) := Lib.hid ho2'
              have HB3 : Below base w W5 := HB2
              clear hWW ho2 ho2' HB2 ho1 HB1 d1 d2 f3 f4
              go_wp2_with fail
              go_roundg j2
              case measure => have := hr2.out.1; omega
              case rel => exact ⟨j2, A', y :: B, by omega, by go_num, Lib.hid ⟨rfl, hl2.out, fun z hz => hr2.out.2.2.1 z (by simp [hz]), by have := hr2.out.2.2.2; simp at this; simp; omega⟩, hI2, HB3, ho3⟩
          · have g5 : decide (f y - f k < 0) = false := decide_eq_false (by omega)
            have hst := hI.out.stop q
            have hfin : Hid (wr.ownsRow base 3 1 (.slice (some ⟨g, 0, none⟩) n cap) n (natV (ordN f (k + 1) ++ (List.range n).drop (k + 1)))) := Lib.hid (by
              rw [← hst, hRR.out, List.append_assoc, List.cons_append, hform]
              exact ho.out)
            clear q hst
            go_upto_region 4 with fail
            refine wp_region_quiet_below (by kernel_rfl) (by kernel_rfl) ?_
            repeat (go_big_quiet_step ((first | with_reducible exact regrown_call_at HCk.out)))
            refine wpQuiet_nil ?_
            intro v1 hb'
            have hb := below_of_regrown hb'
            have HB1 : Below base w v1 := HB.trans (hb.mono (Nat.le_trans hbs HB.size))
            have ho1 := Lib.hid (World.ownsRow_up hfin.out hb)
            clear hb' hb K0 K1 c1 c2 f1 f2 hfr hcell HB ho hI g5 hfin
            go_wp2_with fail
            go_roundg (n + 1 - (k + 1))
            case measure => have := hr.out; omega
            case rel => exact ⟨k + 1, by omega, by omega, by go_num, Lib.hid rfl, HB1, ho1⟩
    · have hE : Hid (wr.ownsRow base 3 1 (.slice (some ⟨g, 0, none⟩) n cap) n (natV (ordN f n))) := Lib.hid (by
        have h1 : k = n := by omega
        have h2 := ho.out
        rw [h1, List.drop_eq_nil_of_le (by simp), List.append_nil] at h2
        exact h2)
      go_wp2_with fail
      go_end0
      exact ⟨rfl, hE.out, HB⟩
end Go.Proofs.YtcokobdffbhpeaaGreatDoor
set_option linter.unusedVariables false
namespace Go.Proofs.YtcokobdffbhpeaaGreatDoor
open Go.ChangeShapes Go.WideShapes Go.ChangeAt Go.RowKit
set_option maxRecDepth 100000 in
set_option maxHeartbeats 1000000 in
theorem insZ_any (X : Nat) (w : World) :
    Calls Tryz.prog 78 #[.slice none 0 0, .int .i64 0, .int .i64 0, .func (.func 41) #[] #[.pointer (some ⟨X, 0, none⟩)]] w fun e w' => e = .returned (.tuple #[]) ∧ w = w' := by
  go_enter Tryz.func78, Tryz.ntmps78
  go_wp2_with fail
  go_loopg [8] 0 (fun g1 i wr => i = .int .i64 1 ∧ w = wr)
  case atStart => exact ⟨rfl, rfl⟩
  case round =>
    obtain ⟨rfl, rfl⟩ := hrel
    go_wp2_with fail
    go_end0
    exact ⟨rfl, rfl⟩
set_option maxRecDepth 100000 in
set_option maxHeartbeats 1000000 in
theorem insS_any (g cap X : Nat) (w : World) :
    Calls Tryz.prog 78 #[.slice (some ⟨g, 0, none⟩) 0 cap, .int .i64 0, .int .i64 0, .func (.func 41) #[] #[.pointer (some ⟨X, 0, none⟩)]] w fun e w' => e = .returned (.tuple #[]) ∧ w = w' := by
  go_enter Tryz.func78, Tryz.ntmps78
  go_wp2_with fail
  go_loopg [8] 0 (fun g1 i wr => i = .int .i64 1 ∧ w = wr)
  case atStart => exact ⟨rfl, rfl⟩
  case round =>
    obtain ⟨rfl, rfl⟩ := hrel
    go_wp2_with fail
    go_end0
    exact ⟨rfl, rfl⟩
set_option maxRecDepth 100000 in
set_option maxHeartbeats 1000000 in
theorem stable_core (v : Value) (n X : Nat) (hn : n < 20) (w : World) (Q : World → Prop)
    (HI : Hid (Calls Tryz.prog 78 #[v, .int .i64 0, .int .i64 (n : Int), .func (.func 41) #[] #[.pointer (some ⟨X, 0, none⟩)]] w fun e w' => e = .returned (.tuple #[]) ∧ Q w')) :
    Calls Tryz.prog 60 #[v, .int .i64 (n : Int), .func (.func 41) #[] #[.pointer (some ⟨X, 0, none⟩)]] w fun e w' => e = .returned (.tuple #[]) ∧ Q w' := by
  have e1 : decide ((20 : Int) ≤ (n : Int)) = false := decide_eq_false (by omega)
  have e2 : decide ((20 : Int) < (n : Int)) = false := decide_eq_false (by omega)
  go_enter Tryz.func60, Tryz.ntmps60
  go_wp2_with fail
  go_loopg [7, 8] 0 (fun g1 x i wr => x = .int .i64 0 ∧ i = .int .i64 20 ∧ w = wr)
  case atStart => exact ⟨rfl, rfl, rfl⟩
  case round =>
    obtain ⟨rfl, rfl, rfl⟩ := hrel
    go_wp2_with fail
    refine HI.out.mono ?_
    rintro e w1 ⟨rfl, hq⟩
    replace hq := Lib.hid hq
    go_wp2_with fail
    go_loopg [6] 0 (fun g1 i wr => i = .int .i64 20 ∧ w1 = wr)
    case atStart => exact ⟨rfl, rfl⟩
    case round =>
      obtain ⟨rfl, rfl⟩ := hrel
      go_wp2_with fail
      go_end0
      exact ⟨rfl, hq.out⟩
set_option maxRecDepth 100000 in
set_option maxHeartbeats 1000000 in
theorem sort_core (a : Option Addr) (n c X : Nat) (hn : n < 20) (w : World) (Q : World → Prop)
    (HI : Hid (Calls Tryz.prog 78 #[.slice a n c, .int .i64 0, .int .i64 (n : Int), .func (.func 41) #[] #[.pointer (some ⟨X, 0, none⟩)]] w fun e w' => e = .returned (.tuple #[]) ∧ Q w')) :
    Calls Tryz.prog 40 #[.slice a n c, .func (.func 41) #[] #[.pointer (some ⟨X, 0, none⟩)]] w fun e w' => e = .returned (.tuple #[]) ∧ Q w' := by
  have HS := Lib.hid (stable_core (.slice a n c) n X hn w Q HI)
  clear HI
  go_enter Tryz.func40, Tryz.ntmps40
  go_wp2_with fail
  refine HS.out.mono ?_
  rintro e w1 ⟨rfl, hq⟩
  replace hq := Lib.hid hq
  go_wp2_with fail
  go_end0
  exact ⟨rfl, hq.out⟩
set_option maxRecDepth 100000 in
set_option maxHeartbeats 1000000 in
theorem heaviest_any (l : List Bun) (a : Option Addr) (c : Nat) (hl : l.length ≤ c) (hn : l.length < 20) (hm : Hid (∀ j, 0 ≤ massN l j ∧ massN l j ≤ 1099511627776)) (w : World) (hr : RowAt encB 4 w.heap.size w a l) :
    Calls Tryz.prog 20 #[.slice a l.length c] w fun e w' => (∃ v, e = .returned v ∧ w'.ownsRow w.heap.size 3 1 v l.length (natV (ordN (massN l) l.length))) ∧ Below w.heap.size w w' := by
  obtain ⟨i0, hi, hz0, hz1, hz2⟩ := info_parts infoInt
  obtain ⟨n, hn'⟩ : ∃ n, l.length = n := ⟨_, rfl⟩
  rw [hn'] at hl hn ⊢
  have HSo : Hid (∀ (W : World) (v : Value) (X : Nat), Below w.heap.size w W → X < W.heap.size → w.heap.size ≤ X → W.cell? ⟨X, 0, none⟩ = some (.slice a n c) → ∀ W2, Below W.heap.size W W2 → W2.ownsRow W.heap.size 3 1 v n (natV (List.range n)) → Calls Tryz.prog 40 #[v, .func (.func 41) #[] #[.pointer (some ⟨X, 0, none⟩)]] W2 fun e w' => e = .returned (.tuple #[]) ∧ (w'.ownsRow W.heap.size 3 1 v n (natV (ordN (massN l) n)) ∧ Below W.heap.size W2 w')) := Lib.hid fun W v X hW hX hX2 kx W2 hW2 ho => by
    have hrW : RowAt encB 4 W.heap.size W2 a l := ((hr.bel (Nat.le_refl _) hW).mono hW.size).bel (Nat.le_refl _) hW2
    by_cases h0 : n = 0
    · have hv : v = .slice none 0 0 ∨ ∃ g cap, v = .slice (some ⟨g, 0, none⟩) n cap := by
        obtain ⟨_, ⟨h1, h2⟩ | ⟨g, cap, cur, h1, _⟩⟩ := ho
        · exact .inl h1
        · exact .inr ⟨g, cap, h1⟩
      rcases hv with rfl | ⟨g, cap, rfl⟩
      · subst h0
        refine sort_core none 0 0 X (by omega) W2 _ (Lib.hid ((insZ_any X W2).mono ?_))
        rintro e w' ⟨rfl, rfl⟩
        exact ⟨rfl, World.ownsRow_nil _ _ _ _, Below.refl _ _⟩
      · subst h0
        refine sort_core _ 0 cap X (by omega) W2 _ (Lib.hid ((insS_any g cap X W2).mono ?_))
        rintro e w' ⟨rfl, rfl⟩
        exact ⟨rfl, ho, Below.refl _ _⟩
    · obtain ⟨g, cap, rfl, _⟩ := own_some ho (by omega)
      exact sort_core _ n cap X hn W2 _ (Lib.hid (ins_any l a c X W.heap.size g cap n W2 hn' (by omega) (by omega) hl hm hX ((hW2.cell (p := ⟨X, 0, none⟩) hX).trans kx) hrW hW2.size ho))
  have hn3 := hn
  clear hr hm hn'
  generalize massN l = f at *
  go_enter Tryz.func20, Tryz.ntmps20
  go_wp2_with fail
  generalize hWW : World.alloc w _ = WW
  have kx : At WW w.heap.size 22 #[.slice a n c] := by rw [← hWW]; exact At.new' rfl
  have HB : Below w.heap.size w WW := by rw [← hWW]; exact below_al (Below.refl _ _) _
  clear hWW
  have x0 : WW.cell? ⟨w.heap.size, 0, none⟩ = some (.slice a n c) := kx.c 0
  have hXl := Lib.hid kx.lt
  clear kx
  have hx00 := Lib.hid x0
  go_wp2_with fail
  go_loopg [7, 3] n (fun g i u wr => ∃ (k : Nat) (u0 : Value), u0 = u ∧ k ≤ n ∧ i = .int .i64 (k : Int) ∧ Hid (g = n - k) ∧ Below WW.heap.size WW wr ∧ Hid (wr.ownsRow WW.heap.size 3 1 u k (natV (List.range k))))
  case atStart => exact ⟨0, _, rfl, Nat.zero_le _, rfl, Lib.hid rfl, Below.refl _ _, Lib.hid (World.ownsRow_nil _ _ _ _)⟩
  case round =>
    clear x0
    obtain ⟨k, u, rfl, hk, rfl, hr, HB2, ho⟩ := hrel
    have x0 : wr.cell? ⟨w.heap.size, 0, none⟩ = some (.slice a n c) := cell_up HB2 hx00.out
    by_cases hlt : k < n
    · have hran : natV (List.range (k + 1)) = natV (List.range k) ++ [.int .i64 (k : Int)] := by rw [List.range_succ, natV_app]; rfl
      go_wp2_with (at_builtin; refine wpList_append_own_at _ rfl _ _ 49 rfl WW.heap.size 3 i0 (.int .i64 0) 1 8 Tryz.underlying49 hi hz0 hz1 hz2 rfl (by decide) _ _ _ rfl (World.ownsRow.alloc ho.out _) ⟨wr.heap.size, 0, none⟩ 1 1 [.int .i64 (k : Int)] rfl rfl (cell_one_new _ _ _) (by intro u hu; simp at hu; subst hu; rfl) (by unfold maxLen; omega) (by omega) (by have := HB2.size; simp; omega) ?_)
      intro v' w5 ho1 hg1 hnil hloc
      have hb1 : Below WW.heap.size WW w5 := below_grown HB2 ((World.grownBy_alloc _ _ _).trans hg1) (fun b hb => (own_lt ho.out hb).2)
      have ho2 : Hid (w5.ownsRow WW.heap.size 3 1 v' (k + 1) (natV (List.range (k + 1)))) := Lib.hid (by rw [hran]; exact ho1)
      clear hg1 hnil hloc ho1 x0 ho
      go_wp2_with fail
      go_roundg (n - (k + 1))
      case measure => have := hr.out; omega
      case rel => exact ⟨k + 1, _, rfl, by omega, by go_num, Lib.hid rfl, hb1, ho2⟩
    · have hkn : k = n := by omega
      subst hkn
      have HS := Lib.hid (HSo.out WW u w.heap.size HB hXl.out (Nat.le_refl _) hx00.out wr HB2 ho.out)
      clear HSo ho
      go_wp2_with fail
      refine HS.out.mono ?_
      rintro e w4 ⟨rfl, ho4, hb4⟩
      have ho5 := Lib.hid (own_weak ho4 HB.size)
      have HB4 : Below w.heap.size w w4 := below_then HB (HB2.trans hb4)
      clear HS ho4 hb4 x0
      go_wp2_with fail
      go_ret
      exact ⟨⟨u, rfl, ho5.out⟩, HB4⟩
end Go.Proofs.YtcokobdffbhpeaaGreatDoor
set_option linter.unusedVariables false
namespace Go.Proofs.YtcokobdffbhpeaaGreatDoor
open Go.ChangeShapes Go.WideShapes Go.ChangeAt Go.RowKit
theorem infoIS : (Tryz.prog.info? 49).map (fun i => (i.zero, i.size, i.bytes)) = some (some (.slice none 0 0), 1, 24) := by kernel_rfl
set_option maxRecDepth 100000 in
set_option maxHeartbeats 1000000 in
theorem greedF_any (l : List Bun) (a : Option Addr) (c : Nat) (i X Y Z : Nat) (n most : Int) (hi : i < l.length) (hc : l.length ≤ c) (B : Nat) (w : World) (hn : 0 ≤ n ∧ n ≤ 1099511627776) (hm : 0 ≤ massN l i ∧ massN l i ≤ 1099511627776) (kx : w.cell? ⟨X, 0, none⟩ = some (.slice a l.length c)) (kz : w.cell? ⟨Z, 0, none⟩ = some (.int .i64 (i : Int))) (ky : w.cell? ⟨Y, 0, none⟩ = some (.int .i64 most)) (hr : Hid (RowAt encB 4 B w a l)) :
    Calls Tryz.prog 22 #[.int .i64 n, .pointer (some ⟨X, 0, none⟩), .pointer (some ⟨Z, 0, none⟩), .pointer (some ⟨Y, 0, none⟩)] w fun e w' => e = .returned (.bool (decide (n + massN l i ≤ most))) ∧ Below w.heap.size w w' := by
  obtain ⟨b, off, rfl, -, -, -, c3, -⟩ := hr.out.bun i hi
  have hmi : massN l i = l[i].mass := by unfold massN; rw [List.getElem?_eq_getElem hi]
  rw [hmi] at hm ⊢
  generalize l[i].mass = x at *
  generalize l.length = ln at *
  obtain ⟨S, hS⟩ : ∃ S, n + x = S := ⟨_, rfl⟩
  have u1 : IntKind.i64.wrap (n + x) = S := by rw [hS, IntWalk.i64_in _ (by omega)]
  rw [hS]
  clear hS hmi hm hn
  have K0 := cell_regrown kx
  have K1 := cell_regrown ky
  have K2 := cell_regrown kz
  have K3 := cell_regrown c3
  go_enter Tryz.func22, Tryz.ntmps22
  go_upto_region 1 with fail
  refine wp_region_quiet_below (by kernel_rfl) (by kernel_rfl) ?_
  repeat (go_big_quiet_step (fail))
  refine wpQuiet_nil ?_
  intro v1 hb'
  have hb := below_of_regrown hb'
  clear hb' K0 K1 K2 K3
  go_wp2_with fail
  go_ret
  exact ⟨rfl, hb⟩
theorem set_mod (l : List Int) (k : Nat) (hk : k < l.length) (z y : Int) (hz : l[k]? = some z) : l.set k (z + y) = l.modify k (· + y) := by
  refine List.ext_getElem? fun j => ?_
  rw [List.getElem?_modify, List.getElem?_set]
  by_cases q : k = j
  · subst q
    rw [if_pos rfl, if_pos hk, hz]
    simp
  · rw [if_neg q]
    simp [q]
structure GivK (l : List Bun) (most : Int) : Prop where
  pos : 1 ≤ most ∧ most ≤ 1099511627776
  mass : ∀ j, 0 ≤ massN l j ∧ massN l j ≤ 1099511627776
  fit : ∀ i, i < l.length → 0 ≤ massN l i ∧ massN l i ≤ most
  val : bunV l = true
theorem givK {l : List Bun} {most : Int} (h : givE l most = 0) : GivK l most := by
  unfold givE at h
  cases hv : bunV l
  · rw [if_pos hv] at h; cases h
  rw [if_neg (by rw [hv]; decide)] at h
  cases hw : (decide (1 ≤ most) && decide (most ≤ 1099511627776))
  · rw [if_pos hw] at h; cases h
  rw [if_neg (by rw [hw]; decide)] at h
  simp only [Bool.and_eq_true, decide_eq_true_eq] at hw
  cases ho : (l.any fun b => decide (most < b.mass))
  rotate_left
  · rw [if_pos ho] at h; cases h
  have hok : ∀ b ∈ l, 0 ≤ b.mass ∧ b.mass ≤ 1099511627776 ∧ b.mass ≤ most := fun b hb => by
    have h1 := List.any_eq_false.1 ho b hb
    have h2 := hv
    unfold bunV at h2
    simp only [Bool.and_eq_true, decide_eq_true_eq] at h2
    have h3 := List.all_eq_true.1 h2.1.2 b hb
    unfold bunOk at h3
    simp only [Bool.and_eq_true, decide_eq_true_eq] at h3
    simp at h1
    exact ⟨h3.1.2, h3.2, h1⟩
  have hf : ∀ i, i < l.length → massN l i ∈ l.map (·.mass) := fun i hi => by
    unfold massN
    rw [List.getElem?_eq_getElem hi]
    exact List.mem_map.2 ⟨_, List.getElem_mem hi, rfl⟩
  refine ⟨hw, fun j => ?_, fun i hi => ?_, hv⟩
  · by_cases hj : j < l.length
    · obtain ⟨b, hb, e⟩ := List.mem_map.1 (hf j hj)
      have := hok b hb
      rw [← e]
      omega
    · unfold massN
      rw [List.getElem?_eq_none (by omega)]
      exact ⟨Int.le_refl _, by decide⟩
  · obtain ⟨b, hb, e⟩ := List.mem_map.1 (hf i hi)
    have := hok b hb
    rw [← e]
    omega
end Go.Proofs.YtcokobdffbhpeaaGreatDoor
