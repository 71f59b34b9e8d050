/- bundle.Make: its closure, and whether a bar is too heavy. lorry: what is given; a sort by masses. lorry: the heaviest first: the sort by insertion. -/
import Derived.Test.YtjlkbmaigcgnbaaDoorBJ16
import Derived.Test.YtjlkbmaigcgnbaaDoorBJ05
import Derived.Test.YtjlkbmaigcgnbaaDoorBJ13
set_option linter.unusedVariables false
namespace Go.Proofs.YtjlkbmaigcgnbaaDoor
open Go.ChangeShapes Go.WideShapes Go.ChangeAt Go.RowKit
set_option maxRecDepth 100000 in
set_option maxHeartbeats 1000000 in
theorem makeF_any (x : Br × Value) (most : Int) (X : Nat) (w : World) (hm : x.1.mark.size ≤ 1000000) (hv : IsI x.1.dims x.2 w) (hok : barV x.1 = true) (kx : At w X 3 #[.int .i64 most]) : Calls Tryd.prog 21 #[.agg (encQ x).toArray, .pointer (some ⟨X, 0, none⟩)] w fun e w' => e = .returned (.bool (decide (most < massB x.1))) ∧ Below w.heap.size w w' := by
  have HO := Lib.hid (fun W (hW : Below w.heap.size w W) => one_any x.1 x.2 W hm (hv.up hW) hok)
  obtain ⟨⟨mk, sz, ct, c, l⟩, v⟩ := x
  unfold encQ
  unfold barC at HO
  dsimp only at *
  obtain ⟨a, cc, rfl, -, -, -⟩ := hv
  generalize massB ⟨mk, sz, ct, c, l⟩ = M at *
  generalize l.length = n0 at *
  clear hok
  go_enter Tryd.func21, Tryd.ntmps21
  go_upto_region 1 with fail
  generalize hWW : World.alloc w _ = WW
  have kb : At WW w.heap.size 50 #[.string mk, .int .i64 sz, .int .i64 ct, .int .i64 c, .slice a n0 cc] := by rw [← hWW]; exact At.new' rfl
  have HB : Below w.heap.size w WW := by rw [← hWW]; exact below_al (Below.refl _ _) _
  replace kx := kx.bel HB
  clear hWW
  have HO2 := Lib.hid (fun W (hW : Below WW.heap.size WW W) => HO.out W (below_then HB hW))
  have K0 := cell_regrown (show WW.cell? ⟨w.heap.size, 0, none⟩ = some (.string mk) from kb.c 0)
  have K1 := cell_regrown (show WW.cell? ⟨w.heap.size, 1, none⟩ = some (.int .i64 sz) from kb.c 1)
  have K2 := cell_regrown (show WW.cell? ⟨w.heap.size, 2, none⟩ = some (.int .i64 ct) from kb.c 2)
  have K3 := cell_regrown (show WW.cell? ⟨w.heap.size, 3, none⟩ = some (.int .i64 c) from kb.c 3)
  have K4 := cell_regrown (show WW.cell? ⟨w.heap.size, 4, none⟩ = some (.slice a n0 cc) from kb.c 4)
  have K5 := cell_regrown (show WW.cell? ⟨X, 0, none⟩ = some (.int .i64 most) from kx.c 0)
  clear kb kx HO
  refine wp_region_quiet_below (by kernel_rfl) (by kernel_rfl) ?_
  repeat (go_big_quiet_step ((first | with_reducible exact regrown_call_at HO2.out)))
  refine wpQuiet_nil ?_
  intro v1 hb'
  have hb := below_of_regrown hb'
  clear hb' K0 K1 K2 K3 K4 K5 HO2
  go_wp2_with fail
  go_ret
  exact ⟨rfl, below_then HB hb⟩
def IsU (l : List Bun) (v : Value) (w : World) : Prop := ∃ a c, v = .slice a l.length c ∧ l.length ≤ c ∧ c ≤ 9223372036854775807 ∧ RowAt encB 4 w.heap.size w a l
theorem IsU.up {l : List Bun} {v : Value} {w w' : World} (h : IsU l v w) (hb : Below w.heap.size w w') : IsU l v w' := by
  obtain ⟨a, c, h1, h2, h3, h4⟩ := h
  exact ⟨a, c, h1, h2, h3, (h4.bel (Nat.le_refl _) hb).mono hb.size⟩
theorem row_isU {l : List Bun} {v : Value} {w : World} {base : Nat} (h : w.ownsRow base 44 4 v l.length (l.flatMap encB)) : IsU l v w := by
  have h2 : Row w 44 4 encB v l := ⟨h.1, h.2.imp id fun ⟨g, cap, cur, h1, _, h3⟩ => ⟨g, cap, cur, h1, Nat.zero_le _, h3⟩⟩
  obtain ⟨a, c, h3, h4, h5, h6, _⟩ := h2.view encB_len
  exact ⟨a, c, h3, h4, h5, h6⟩
theorem isU_nil (w : World) : IsU [] (.slice none 0 0) w := ⟨none, 0, rfl, Nat.le_refl _, by omega, RowAt.nil _ _⟩
theorem infoBnd : (Tryd.prog.info? 44).map (fun i => (i.zero, i.size, i.bytes)) = some (some (.agg #[.string ⟨#[]⟩, .string ⟨#[]⟩, .int .i64 0, .int .i64 0]), 4, 48) := by kernel_rfl
end Go.Proofs.YtjlkbmaigcgnbaaDoor
set_option linter.unusedVariables false
namespace Go.Proofs.YtjlkbmaigcgnbaaDoor
open Go.ChangeShapes Go.WideShapes Go.ChangeAt Go.RowKit
set_option maxRecDepth 100000 in
set_option maxHeartbeats 1000000 in
theorem within_any (m : Int) (w : World) : Calls Tryd.prog 30 #[.int .i64 m] w fun e w' => e = .returned (.bool (decide (1 ≤ m) && decide (m ≤ 1099511627776))) ∧ w = w' := by
  by_cases h1 : 1 ≤ m
  · have e1 : decide (1 ≤ m) = true := decide_eq_true h1
    rw [e1, Bool.true_and]
    clear h1
    generalize hq : decide (m ≤ 1099511627776) = q
    go_enter Tryd.func30, Tryd.ntmps30
    go_wp2_with fail
    go_ret
    exact ⟨rfl, rfl⟩
  · have e1 : decide (1 ≤ m) = false := decide_eq_false h1
    rw [e1, Bool.false_and]
    clear h1
    go_enter Tryd.func30, Tryd.ntmps30
    go_wp2_with fail
    go_ret
    exact ⟨rfl, rfl⟩
set_option maxRecDepth 100000 in
set_option maxHeartbeats 1000000 in
theorem givenF_any (x : Bun) (most : Int) (X : Nat) (w : World) (kx : At w X 3 #[.int .i64 most]) : Calls Tryd.prog 46 #[.agg (encB x).toArray, .pointer (some ⟨X, 0, none⟩)] w fun e w' => e = .returned (.bool (decide (most < x.mass))) ∧ Below w.heap.size w w' := by
  obtain ⟨tg, mk, ct, ms⟩ := x
  unfold encB
  dsimp only
  have x0 : w.cell? ⟨X, 0, none⟩ = some (.int .i64 most) := kx.c 0
  have hX : X < w.heap.size := kx.lt
  generalize hR : decide (most < ms) = R
  go_enter Tryd.func46, Tryd.ntmps46
  go_wp2_with fail
  go_ret
  exact ⟨rfl, below_al (Below.refl _ _) _⟩
def givE (l : List Bun) (most : Int) : Int := if bunV l = false then 1 else if (decide (1 ≤ most) && decide (most ≤ 1099511627776)) = false then 2 else if l.any (fun b => decide (most < b.mass)) = true then 20 else 0
set_option maxRecDepth 100000 in
set_option maxHeartbeats 1000000 in
theorem lgiven_any (l : List Bun) (ao : Option Addr) (cap : Nat) (most : Int) (hl : l.length ≤ cap) (hc : cap ≤ 9223372036854775807) (hs : Hid (∀ x ∈ l, x.tag.size ≤ 60 ∧ x.mark.size ≤ 60)) (w : World) (ha : Hid (RowAt encB 4 w.heap.size w ao l)) :
    Calls Tryd.prog 26 #[.slice ao l.length cap, .int .i64 most] w fun e w' => e = .returned (.int .i64 (givE l most)) ∧ Below w.heap.size w w' := by
  obtain ⟨R, hR⟩ : ∃ R, givE l most = R := ⟨_, rfl⟩
  rw [hR]
  unfold givE at hR
  have up : ∀ W, Below w.heap.size w W → RowAt encB 4 W.heap.size W ao l := fun W hW => (ha.out.bel (Nat.le_refl _) hW).mono hW.size
  have HV := Lib.hid (fun (W : World) (hW : Below w.heap.size w W) => bvalid_any l ao cap hl hc hs W (Lib.hid (up W hW)))
  have HW := Lib.hid (fun w => within_any most w)
  have HC := Lib.hid (fun (W : World) (X : Nat) (hW : Below w.heap.size w W) (kx : At W X 3 #[.int .i64 most]) => contBun encB encB_len l ao cap hl hc _ W (Nat.le_refl _) (Lib.hid (up W hW)) 46 (.pointer (some ⟨X, 0, none⟩)) (fun args w => by simp [go_sem]) (fun b => decide (most < b.mass)) (Lib.hid fun x hx W' hW' => givenF_any x most X W' (kx.bel hW')))
  generalize l.length = n at *
  generalize bunV l = bv at *
  generalize (decide (1 ≤ most) && decide (most ≤ 1099511627776)) = wi at *
  generalize (l.any fun b => decide (most < b.mass)) = ov at *
  clear up
  go_enter Tryd.func26, Tryd.ntmps26
  go_wp2_with fail
  generalize hWW : World.alloc w _ = WW
  have kx : At WW w.heap.size 3 #[.int .i64 most] := by rw [← hWW]; exact At.new' rfl
  have HB : Below w.heap.size w WW := by rw [← hWW]; exact below_al (Below.refl _ _) _
  clear hWW
  refine (HV.out _ HB).mono ?_
  rintro e w1 ⟨rfl, hb⟩
  replace HB := below_then HB hb
  replace kx := kx.bel hb
  clear hb HV
  rcases bv with _ | _
  · rw [if_pos rfl] at hR
    subst hR
    clear HC HW
    go_wp2_with fail
    go_ret
    exact ⟨rfl, HB⟩
  rw [if_neg (by decide)] at hR
  have x0 : w1.cell? ⟨w.heap.size, 0, none⟩ = some (.int .i64 most) := kx.c 0
  go_wp2_with fail
  refine (HW.out _).mono ?_
  rintro e w2 ⟨rfl, rfl⟩
  clear HW x0
  rcases wi with _ | _
  · rw [if_pos rfl] at hR
    subst hR
    clear HC
    go_wp2_with fail
    go_ret
    exact ⟨rfl, HB⟩
  rw [if_neg (by decide)] at hR
  have HCk := Lib.hid (HC.out w1 w.heap.size HB kx)
  clear HC
  go_wp2_with fail
  refine (HCk.out).mono ?_
  rintro e w2 ⟨rfl, hb⟩
  replace HB := below_then HB hb
  clear hb HCk
  rcases ov with _ | _
  · rw [if_neg (by decide)] at hR
    subst hR
    go_wp2_with fail
    go_ret
    exact ⟨rfl, HB⟩
  · rw [if_pos rfl] at hR
    subst hR
    go_wp2_with fail
    go_ret
    exact ⟨rfl, HB⟩
set_option maxRecDepth 100000 in
set_option maxHeartbeats 1000000 in
theorem cmpF_any (l : List Bun) (a : Option Addr) (c : Nat) (i k X : Nat) (hi : i < l.length) (hk : k < l.length) (B : Nat) (w : World) (hc : l.length ≤ c) (hm : Hid (∀ j, 0 ≤ massN l j ∧ massN l j ≤ 1099511627776)) (kx : w.cell? ⟨X, 0, none⟩ = some (.slice a l.length c)) (hr : Hid (RowAt encB 4 B w a l)) :
    Calls Tryd.prog 48 #[.int .i64 (i : Int), .int .i64 (k : Int), .pointer (some ⟨X, 0, none⟩)] w fun e w' => e = .returned (.int .i64 (massN l k - massN l i)) ∧ Below w.heap.size w w' := by
  obtain ⟨b, off, rfl, -, -, -, c3, -⟩ := hr.out.bun i hi
  obtain ⟨b', off', e, -, -, -, d3, -⟩ := hr.out.bun k hk
  simp only [Option.some.injEq, Addr.mk.injEq, and_true] at e
  obtain ⟨rfl, rfl⟩ := e
  have hmi : massN l i = l[i].mass := by unfold massN; rw [List.getElem?_eq_getElem hi]
  have hmk : massN l k = l[k].mass := by unfold massN; rw [List.getElem?_eq_getElem hk]
  have bi := hm.out i
  have bk := hm.out k
  rw [hmi] at bi ⊢
  rw [hmk] at bk ⊢
  generalize l[i].mass = x at *
  generalize l[k].mass = y at *
  generalize l.length = n at *
  obtain ⟨R, hR⟩ : ∃ R, y - x = R := ⟨_, rfl⟩
  have u1 : IntKind.i64.wrap (y - x) = R := by rw [hR, IntWalk.i64_in _ (by omega)]
  rw [hR]
  clear hR hmi hmk bi bk
  go_enter Tryd.func48, Tryd.ntmps48
  go_upto_region 1 with fail
  have K0 := cell_regrown kx
  have K1 := cell_regrown c3
  have K2 := cell_regrown d3
  refine wp_region_quiet_below (by kernel_rfl) (by kernel_rfl) ?_
  repeat (go_big_quiet_step (fail))
  refine wpQuiet_nil ?_
  intro v1 hb'
  have hb := below_of_regrown hb'
  clear hb' K0 K1 K2
  go_wp2_with fail
  go_ret
  exact ⟨rfl, hb⟩
end Go.Proofs.YtjlkbmaigcgnbaaDoor
set_option linter.unusedVariables false
namespace Go.Proofs.YtjlkbmaigcgnbaaDoor
open Go.ChangeShapes Go.WideShapes Go.ChangeAt Go.RowKit
theorem swap_a (A R : List Value) (x y : Value) : ((A ++ y :: x :: R).set (A.length + 1) y).set A.length x = A ++ x :: y :: R := by
  simp
theorem ord_one (f : Nat → Int) {n : Nat} (h : 1 ≤ n) : ordN f 1 ++ (List.range n).drop 1 = List.range n := by
  have e : ordN f 1 = [0] := rfl
  obtain ⟨m, rfl⟩ : ∃ m, n = m + 1 := ⟨n - 1, by omega⟩
  rw [e, List.range_succ_eq_map]
  rfl
theorem own_at {w : World} {base g n cap : Nat} {e : TypeId} {xs : List Value} (h : w.ownsRow base e 1 (.slice (some ⟨g, 0, none⟩) n cap) n xs) : (∀ i, w.frozen? ⟨g, i, none⟩ = false) ∧ ∀ (k : Nat) (u : Value), xs[k]? = some u → w.cell? ⟨g, k, none⟩ = some u := by
  obtain ⟨hl, ⟨h1, h2⟩ | ⟨g', cap', cur, h1, h2, h3, h4, h5, h6, h7⟩⟩ := h
  · cases h1
  · simp only [Value.slice.injEq, Option.some.injEq, Addr.mk.injEq, and_true, true_and] at h1
    obtain ⟨rfl, rfl⟩ := h1
    refine ⟨fun i => by simp [World.frozen?, h3], fun k u hu => ?_⟩
    have hk := (List.getElem?_eq_some_iff.1 hu).1
    have hc := cell_of_row w g k cur e (0, 0) h3
    rw [hc]
    rw [← h7, List.getElem?_take_of_lt (by omega)] at hu
    rw [← hu]
    simp
theorem natV_app (a b : List Nat) : natV (a ++ b) = natV a ++ natV b := by unfold natV; rw [List.map_append]
theorem natV_cons (a : Nat) (b : List Nat) : natV (a :: b) = .int .i64 (a : Int) :: natV b := rfl
set_option maxRecDepth 100000 in
set_option maxHeartbeats 2000000 in
theorem ins_any (l : List Bun) (a : Option Addr) (c : Nat) (X base g cap n : Nat) (w : World) (hn : l.length = n) (hn1 : 1 ≤ n) (hn2 : n ≤ 1000000) (hc : n ≤ c) (hm : Hid (∀ j, 0 ≤ massN l j ∧ massN l j ≤ 1099511627776)) (hX : X < base) (kx : w.cell? ⟨X, 0, none⟩ = some (.slice a n c)) (hr : RowAt encB 4 base w a l)
    (hbs : base ≤ w.heap.size) (ho : w.ownsRow base 3 1 (.slice (some ⟨g, 0, none⟩) n cap) n (natV (List.range n))) :
    Calls Tryd.prog 82 #[.slice (some ⟨g, 0, none⟩) n cap, .int .i64 0, .int .i64 (n : Int), .func (.func 48) #[] #[.pointer (some ⟨X, 0, none⟩)]] w fun e w' => e = .returned (.tuple #[]) ∧ w'.ownsRow base 3 1 (.slice (some ⟨g, 0, none⟩) n cap) n (natV (ordN (massN l) n)) ∧ Below base w w' := by
  have HC := Lib.hid (fun (i k : Nat) (hi : i < n) (hk : k < n) (W : World) (hW : Below base w W) => cmpF_any l a c i k X (by rw [hn]; exact hi) (by rw [hn]; exact hk) base W (by rw [hn]; exact hc) hm (by rw [hn]; exact (hW.cell (p := ⟨X, 0, none⟩) hX).trans kx) (Lib.hid (fun q hq => by
    obtain ⟨b, off, e, hlt, hcc⟩ := hr q hq
    exact ⟨b, off, e, hlt, fun j u hu => (hW.cell hlt).trans (hcc j u hu)⟩)))
  have hg := (own_lt ho (b := g) rfl).2
  have ho0 := Lib.hid ho
  have hcap : n ≤ cap ∧ cap ≤ 9223372036854775807 := by
    obtain ⟨g', cap', e, h1, h2, _⟩ := own_some ho (by omega)
    injection e with e1 e2 e3
    subst e3
    exact ⟨h1, h2⟩
  generalize massN l = f at *
  clear hn hr kx ho
  go_enter Tryd.func82, Tryd.ntmps82
  go_wp2_with fail
  go_loopg [8] n (fun g1 i wr => ∃ k : Nat, 1 ≤ k ∧ k ≤ n ∧ i = .int .i64 (k : Int) ∧ Hid (g1 = n + 1 - k) ∧ Below base w wr ∧ Hid (wr.ownsRow base 3 1 (.slice (some ⟨g, 0, none⟩) n cap) n (natV (ordN f k ++ (List.range n).drop k))))
  case atStart => exact ⟨1, Nat.le_refl _, hn1, rfl, Lib.hid (by omega), Below.refl _ _, Lib.hid (by rw [ord_one f hn1]; exact ho0.out)⟩
  case round =>
    clear ho0
    obtain ⟨k, hk1, hk, rfl, hr, HB, ho⟩ := hrel
    by_cases hlt : k < n
    · have hdr : Hid ((List.range n).drop k = k :: (List.range n).drop (k + 1)) := Lib.hid (by
        rw [List.drop_eq_getElem_cons (by simpa using hlt)]
        simp)
      obtain ⟨RR, hRR⟩ : ∃ RR, (List.range n).drop (k + 1) = RR := ⟨_, rfl⟩
      rw [hRR] at hdr
      have hst0 : Hid (wr.ownsRow base 3 1 (.slice (some ⟨g, 0, none⟩) n cap) n (natV (ordN f k ++ k :: ([] ++ RR)))) := Lib.hid (by rw [List.nil_append, ← hdr.out]; exact ho.out)
      have hol : Hid ((ordN f k).length = k ∧ ∀ y ∈ ordN f k, y < n) := Lib.hid ⟨ordN_len f k, fun y hy => Nat.lt_trans (ordN_lt hy) hlt⟩
      replace hRR := Lib.hid hRR
      clear ho hdr
      have HB0 := HB
      go_wp2_with fail
      go_loopg [9] k (fun g1 i wq => ∃ (j : Nat) (A B : List Nat), j ≤ k ∧ i = .int .i64 (j : Int) ∧ Hid (g1 = j ∧ A.length = j ∧ (∀ y ∈ A, y < n) ∧ A.length + B.length = k) ∧ Hid (InsAt f k A B (ordN f (k + 1))) ∧ Below base w wq ∧ Hid (wq.ownsRow base 3 1 (.slice (some ⟨g, 0, none⟩) n cap) n (natV (A ++ k :: (B ++ RR)))))
      case atStart => exact ⟨k, ordN f k, [], Nat.le_refl _, rfl, Lib.hid ⟨rfl, hol.out.1, hol.out.2, by simp [hol.out.1]⟩, Lib.hid (InsAt.start f k), HB, hst0⟩
      case round =>
        clear HB hst0 hol HB0
        obtain ⟨j, A, B, hj, rfl, hr2, hI, HB, ho⟩ := hrel
        rcases List.eq_nil_or_concat A with hA | ⟨A', y, hA⟩
        · have hj0 : j = 0 := by have := hr2.out.2.1; rw [hA] at this; exact this.symm
          subst hj0
          have hfin : Hid (wr.ownsRow base 3 1 (.slice (some ⟨g, 0, none⟩) n cap) n (natV (ordN f (k + 1) ++ (List.range n).drop (k + 1)))) := Lib.hid (by
            have h1 := ho.out
            rw [hA] at h1
            have h2 := hI.out
            rw [hA] at h2
            rw [← h2.zero, hRR.out]
            exact h1)
          clear hA
          go_upto_region 4 with fail
          refine wp_region_quiet_below (by kernel_rfl) (by kernel_rfl) ?_
          repeat (go_big_quiet_step (fail))
          refine wpQuiet_nil ?_
          intro v1 hb'
          have hb := below_of_regrown hb'
          have ho1 := Lib.hid (World.ownsRow_up hfin.out hb)
          have HB1 : Below base w v1 := HB.trans (hb.mono (Nat.le_trans hbs HB.size))
          clear hb' hb hfin ho HB
          go_wp2_with fail
          go_roundg (n + 1 - (k + 1))
          case measure => have := hr.out; omega
          case rel => exact ⟨k + 1, by omega, by omega, by go_num, Lib.hid rfl, HB1, ho1⟩
        · rw [List.concat_eq_append] at hA
          subst hA
          obtain ⟨j2, rfl⟩ : ∃ j2, j = j2 + 1 := ⟨A'.length, by have := hr2.out.2.1; simp at this; omega⟩
          have hl2 : Hid (A'.length = j2) := Lib.hid (by have := hr2.out.2.1; simp at this; omega)
          have hyn : y < n := hr2.out.2.2.1 y (by simp)
          have hform : natV ((A' ++ [y]) ++ k :: (B ++ RR)) = natV A' ++ .int .i64 (y : Int) :: .int .i64 (k : Int) :: natV (B ++ RR) := by
            rw [natV_app, natV_app, natV_cons, natV_cons, List.append_assoc]; rfl
          rw [hform] at ho
          obtain ⟨hfr, hcell⟩ := own_at ho.out
          have hl3 : (natV A').length = j2 := by rw [natV_len]; exact hl2.out
          have c1 : wr.cell? ⟨g, j2, none⟩ = some (.int .i64 (y : Int)) := hcell j2 _ (by rw [List.getElem?_append_right (by omega), hl3]; simp)
          have c2 : wr.cell? ⟨g, j2 + 1, none⟩ = some (.int .i64 (k : Int)) := hcell (j2 + 1) _ (by rw [List.getElem?_append_right (by omega), hl3, show j2 + 1 - j2 = 1 by omega]; rfl)
          have f1 := hfr j2
          have f2 := hfr (j2 + 1)
          have HCk := Lib.hid (fun (W : World) (hW : Below wr.heap.size wr W) => HC.out k y hlt hyn W (HB.trans (hW.mono (Nat.le_trans hbs HB.size))))
          have u1 : IntKind.i64.wrap (((j2 + 1 : Nat) : Int) - 1) = (j2 : Int) := by rw [IntWalk.i64_in _ (by omega)]; omega
          have u3 : IntKind.i64.wrap (j2 : Int) = (j2 : Int) := IntWalk.i64_in _ (by omega)
          have u4 : j2 < n := by omega
          have u5 : j2 + 1 < n := by omega
          have u6 : (0 : Int) ≤ (j2 : Int) + 1 := by omega
          have u7 : (j2 : Int) + 1 < (n : Int) := by omega
          have u2 : decide ((0 : Int) < ((j2 + 1 : Nat) : Int)) = true := decide_eq_true (by omega)
          have K0 := cell_regrown c1
          have K1 := cell_regrown c2
          by_cases q : f y < f k
          · have g5 : decide (f y - f k < 0) = true := decide_eq_true (by omega)
            have hI2 := Lib.hid (hI.out.go q)
            clear q
            go_upto_region 4 with fail
            refine wp_region_quiet_below (by kernel_rfl) (by kernel_rfl) ?_
            repeat (go_big_quiet_step ((first | with_reducible exact regrown_call_at HCk.out)))
            refine wpQuiet_nil ?_
            intro v1 hb'
            have hb := below_of_regrown hb'
            have HB1 : Below base w v1 := HB.trans (hb.mono (Nat.le_trans hbs HB.size))
            have ho1 := Lib.hid (World.ownsRow_up ho.out hb)
            have d1 := cell_up hb c1
            have d2 := cell_up hb c2
            obtain ⟨hfr2, -⟩ := own_at ho1.out
            have f3 := hfr2 j2
            have f4 := hfr2 (j2 + 1)
            clear hb' hb K0 K1 c1 c2 f1 f2 hfr hfr2 hcell HB ho hI g5
            go_upto_region 6 with fail
            go_region_law (first | fail)
            all_goals
              have ho2 := own_put (own_put ho1.out (g := g) rfl u5 (.int .i64 (y : Int))) (g := g) rfl u4 (.int .i64 (k : Int))
              rw [← hl3, swap_a, hl3, show natV A' ++ Value.int .i64 (k : Int) :: Value.int .i64 (y : Int) :: natV (B ++ RR) = natV (A' ++ k :: ((y :: B) ++ RR)) by unfold natV; simp] at ho2
              have HB2 : Below base w ((v1.setCell ⟨g, j2 + 1, none⟩ (.int .i64 (y : Int))).setCell ⟨g, j2, none⟩ (.int .i64 (k : Int))).drew := ((HB1.setCell hg _).setCell hg _).trans ((drew_bel _).mono (by simp; exact Nat.le_trans hbs HB1.size))
              have ho2' := World.ownsRow.drew ho2
              generalize hWW : World.drew _ = W5 at ho2' HB2 ⊢
              have ho3 : Hid (W5.ownsRow base 3 1 (.slice (some ⟨g, 0, none⟩) n cap) n (natV (A' ++ k :: ((y :: B) ++ RR)))) := Lib.hid ho2'
              have HB3 : Below base w W5 := HB2
              clear hWW ho2 ho2' HB2 ho1 HB1 d1 d2 f3 f4
              go_wp2_with fail
              go_roundg j2
              case measure => have := hr2.out.1; omega
              case rel => exact ⟨j2, A', y :: B, by omega, by go_num, Lib.hid ⟨rfl, hl2.out, fun z hz => hr2.out.2.2.1 z (by simp [hz]), by have := hr2.out.2.2.2; simp at this; simp; omega⟩, hI2, HB3, ho3⟩
          · have g5 : decide (f y - f k < 0) = false := decide_eq_false (by omega)
            have hst := hI.out.stop q
            have hfin : Hid (wr.ownsRow base 3 1 (.slice (some ⟨g, 0, none⟩) n cap) n (natV (ordN f (k + 1) ++ (List.range n).drop (k + 1)))) := Lib.hid (by
              rw [← hst, hRR.out, List.append_assoc, List.cons_append, hform]
              exact ho.out)
            clear q hst
            go_upto_region 4 with fail
            refine wp_region_quiet_below (by kernel_rfl) (by kernel_rfl) ?_
            repeat (go_big_quiet_step ((first | with_reducible exact regrown_call_at HCk.out)))
            refine wpQuiet_nil ?_
            intro v1 hb'
            have hb := below_of_regrown hb'
            have HB1 : Below base w v1 := HB.trans (hb.mono (Nat.le_trans hbs HB.size))
            have ho1 := Lib.hid (World.ownsRow_up hfin.out hb)
            clear hb' hb K0 K1 c1 c2 f1 f2 hfr hcell HB ho hI g5 hfin
            go_wp2_with fail
            go_roundg (n + 1 - (k + 1))
            case measure => have := hr.out; omega
            case rel => exact ⟨k + 1, by omega, by omega, by go_num, Lib.hid rfl, HB1, ho1⟩
    · have hE : Hid (wr.ownsRow base 3 1 (.slice (some ⟨g, 0, none⟩) n cap) n (natV (ordN f n))) := Lib.hid (by
        have h1 : k = n := by omega
        have h2 := ho.out
        rw [h1, List.drop_eq_nil_of_le (by simp), List.append_nil] at h2
        exact h2)
      go_wp2_with fail
      go_end0
      exact ⟨rfl, hE.out, HB⟩
end Go.Proofs.YtjlkbmaigcgnbaaDoor
