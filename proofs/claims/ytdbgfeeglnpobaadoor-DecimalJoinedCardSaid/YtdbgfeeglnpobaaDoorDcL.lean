/- DecimalJoined's walk: it returns true. -/
import Derived.Test.YtdbgfeeglnpobaaDoorDcK
set_option linter.unusedVariables false
namespace Go.Proofs.YtdbgfeeglnpobaaDoor
open Go.ChangeShapes Go.WideShapes Go.ChangeAt Go.RowKit

open Go.Lib (join)
set_option maxRecDepth 100000 in
set_option maxHeartbeats 4000000 in
theorem joined_law (s : ByteArray) (hz : s.size ≤ 1000) (w : World) (he : EnvJ w) (r : List Tk) (e5 : Tk) (ts : List Tk) (R : tokS (by_ s) = (r ++ [e5], (0, 0), 0)) (k5 : e5.kind = 5) (hpos : ∀ t ∈ r ++ [e5], PosT (by_ s) t) (hasc : AscT 1 1 (r ++ [e5])) (hjl : (joinT (r ++ [e5])).length ≤ 2000) (hj : tokS (joinT (r ++ [e5])) = (ts, (0, 0), 0)) (hkt : ts.map (fun t => (t.kind, t.text)) = (r ++ [e5]).map (fun t => (t.kind, t.text))) :
    Calls Tryd.prog 10 #[.string s] w fun e w' => e = .returned (.bool true) ∧ Below w.heap.size w w' := by
  obtain ⟨iS, hs0, hs1, hs2, hs3⟩ := info_parts infoStrJ
  have he0 := Lib.hid he
  have hlast : Hid (∃ (h : (r ++ [e5]).length - 1 < (r ++ [e5]).length), ((r ++ [e5])[(r ++ [e5]).length - 1]'h).kind = 5) := Lib.hid ⟨by simp, by simp [k5]⟩
  have hn1 : 1 ≤ (r ++ [e5]).length := by simp
  have hn2 : (r ++ [e5]).length ≤ 1001 := by
    have := tok_len (by_ s)
    rw [R, by_len] at this
    dsimp only at this
    omega
  obtain ⟨l, hl⟩ : ∃ l, r ++ [e5] = l := ⟨_, rfl⟩
  rw [hl] at R hpos hasc hjl hj hkt hlast hn1 hn2
  have HT1 := Lib.hid (fun u => tokens_any s u)
  rw [R] at HT1
  have hasc0 := Lib.hid hasc
  have hpos0 := Lib.hid hpos
  have hjl0 := Lib.hid hjl
  have hj0 := Lib.hid hj
  have hkt0 := Lib.hid hkt
  have hszs := Lib.hid hz
  have zz : decide ((1000 : Int) < (s.size : Int)) = false := by simp; omega
  obtain ⟨n, hn⟩ : ∃ n, l.length = n := ⟨_, rfl⟩
  rw [hn] at hn1 hn2
  have hn0 := Lib.hid hn
  clear hl R hpos hasc hjl hj hkt hz k5 he
  go_enter Tryd.func10, Tryd.ntmps10
  go_wp2_with fail
  refine (awake_any w he0.out.tab).mono ?_
  rintro e w1 ⟨rfl, HB⟩
  go_wp2_with fail
  refine (HT1.out w1).mono ?_
  rintro e w2 ⟨⟨t1, rfl, hown1⟩, hb2⟩
  obtain ⟨a1, cap1, rfl, hc1, ta⟩ := own_tok hown1
  dsimp only at ta hc1
  have HB2 := below_then HB hb2
  dsimp only
  rw [hn]
  rw [hn] at hc1
  have hlc : Hid (∃ g, a1 = some ⟨g, 0, none⟩ ∧ w2.cell? ⟨g, (n - 1) * 4, none⟩ = some (.int .i64 5)) := Lib.hid (by
    obtain ⟨h, hk⟩ := hlast.out
    obtain ⟨g, e1, c0, _⟩ := ta.out.1 _ h
    rw [hk] at c0
    rw [← hn0.out]
    exact ⟨g, e1, c0⟩)
  obtain ⟨g1, rfl, hc5⟩ := hlc.out
  have hglt := ta.out.2 g1 rfl
  clear hown1 hb2 HT1 HB hlast hlc hn
  go_upto_region 6 with fail
  generalize hWW : World.alloc _ _ = W1
  have hbW : Below w2.heap.size w2 W1 := by rw [← hWW]; exact below_al (Below.refl _ _) _
  replace HB2 := below_then HB2 hbW
  have ta1 := Lib.hid (And.intro (ta.out.1.bel hbW ta.out.2) (fun g (h : (some ⟨g1, 0, none⟩ : Option Addr) = some ⟨g, 0, none⟩) => Nat.lt_of_lt_of_le (ta.out.2 g h) hbW.size))
  have hc5 := (hbW.cell hglt).trans hc5
  clear hWW ta hbW hglt
  have n1 : ((n : Int) == 0) = false := by simp; omega
  obtain ⟨n9, hn9⟩ : ∃ n9, n - 1 = n9 := ⟨_, rfl⟩
  have w9 : IntKind.i64.wrap ((n : Int) - 1) = (n9 : Int) := by rw [IntWalk.i64_in _ (by omega)]; omega
  have n9l : n9 < n := by omega
  rw [hn9] at hc5
  have HS := Lib.hid (split10 s (by have := hszs.out; omega) W1 ⟨he0.out.tab.bel HB2, he0.out.mx.imp fun _ h => (HB2.cell (block_lt_of_cell h)).trans h⟩)
  go_wp2_with fail
  refine HS.out.mono ?_
  rintro e W3 ⟨⟨ws, rfl, hws, hst⟩, hb3⟩
  replace HB2 := below_then HB2 hb3
  have ta3 := Lib.hid (And.intro (ta1.out.1.bel hb3 ta1.out.2) (fun g (h : (some ⟨g1, 0, none⟩ : Option Addr) = some ⟨g, 0, none⟩) => Nat.lt_of_lt_of_le (ta1.out.2 g h) hb3.size))
  have hknown := Lib.hid (fun (k : Nat) (hk : k < l.length) => pos_known hws.out (hpos0.out l[k] (List.getElem_mem hk)))
  obtain ⟨G, hG⟩ : ∃ G, W1.heap.size = G := ⟨_, rfl⟩
  rw [hG] at hst ⊢
  obtain ⟨nl, hnl⟩ : ∃ nl, ws.length = nl := ⟨_, rfl⟩
  rw [hnl]
  have hnl9 : nl ≤ 1001 := by
    have h1 := congrArg List.length hws.out
    rw [List.length_map] at h1
    have h2 := splitB_len 10 (by_ s)
    rw [by_len] at h2
    have := hszs.out
    omega
  replace hnl := Lib.hid hnl
  have hwz : Hid (∀ x ∈ ws, x.size ≤ 1000) := Lib.hid (fun x hx => by
    have h1 : by_ x ∈ splitB 10 (by_ s) := by rw [← hws.out]; exact List.mem_map_of_mem hx
    have h2 := splitB_mem 10 _ _ h1
    rw [by_len, by_len] at h2
    have := hszs.out
    omega)
  clear HS ta1 hb3 hws hc5 w9 n9l hn9 n1 hG
  go_wp2_with fail
  go_loopg [47, 7] n (fun g1 i v wr => ∃ (k : Nat) (v0 : Value), v0 = v ∧ k ≤ n ∧ i = .int .i64 (k : Int) ∧ Hid (g1 = n - k) ∧ Below W3.heap.size W3 wr ∧ Hid (wr.ownsRow W3.heap.size 9 1 v k ((l.take k).map strT)))
  case atStart => exact ⟨0, _, rfl, Nat.zero_le _, rfl, Lib.hid rfl, Below.refl _ _, Lib.hid (World.ownsRow_nil _ _ _ _)⟩
  case round =>
    obtain ⟨k, v, rfl, hk, rfl, hr, HB, ho⟩ := hrel
    by_cases hlt : k < n
    · have hkl : Hid (k < l.length) := Lib.hid (by rw [hn0.out]; exact hlt)
      obtain ⟨gq, eg, c0, c1, c2, c3⟩ := (ta3.out.1.bel HB ta3.out.2) k hkl.out
      obtain rfl : g1 = gq := by injection eg with eg; injection eg
      obtain ⟨i, j, hi, q1, q2, q3, q4⟩ := hknown.out k hkl.out
      have hx := (hst.out.1.bel hst.out.2 HB) i hi
      have hst1 : Hid (strT (l[k]'hkl.out) = if (l[k]'hkl.out).kind = 4 then .string ⟨#[10]⟩ else .string ⟨(l[k]'hkl.out).text.toArray⟩) := Lib.hid (by unfold strT txT; split <;> rfl)
      have hprev : Hid (∀ k0, k = k0 + 1 → ∃ L0 C0 : Int, (wr.cell? ⟨g1, k0 * 4 + 2, none⟩ = some (.int .i64 L0) ∧ wr.cell? ⟨g1, k0 * 4 + 3, none⟩ = some (.int .i64 C0)) ∧ (L0 < (l[k]'hkl.out).line ∨ L0 = (l[k]'hkl.out).line ∧ C0 < (l[k]'hkl.out).col)) := Lib.hid (by
        rintro k0 rfl
        obtain ⟨gp, ep, _, _, p2, p3⟩ := (ta3.out.1.bel HB ta3.out.2) k0 (by have := hkl.out; omega)
        obtain rfl : g1 = gp := by injection ep with ep; injection ep
        exact ⟨_, _, ⟨p2, p3⟩, hasc0.out.next k0 hkl.out⟩)
      have hpr : Hid (Lib.hasPrefix (by_ ((ws[i]'hi).extract j (ws[i]'hi).size)) (l[k]'hkl.out).text = true) := Lib.hid (by
        show List.isPrefixOf _ _ = true
        rw [List.isPrefixOf_iff_prefix, by_drop]
        exact q4)
      obtain ⟨x, hxx⟩ : ∃ x, ws[i]'hi = x := ⟨_, rfl⟩
      rw [hxx] at hx q3 hpr
      obtain ⟨K, hK⟩ : ∃ K, (l[k]'hkl.out).kind = K := ⟨_, rfl⟩
      obtain ⟨X, hX⟩ : ∃ X : ByteArray, ⟨(l[k]'hkl.out).text.toArray⟩ = X := ⟨_, rfl⟩
      have hXt : by_ X = (l[k]'hkl.out).text := by rw [← hX]
      obtain ⟨LI, hLI⟩ : ∃ L, (l[k]'hkl.out).line = L := ⟨_, rfl⟩
      obtain ⟨CI, hCI⟩ : ∃ L, (l[k]'hkl.out).col = L := ⟨_, rfl⟩
      rw [hK] at c0 hst1
      rw [hX] at c1 hst1
      rw [hLI] at c2 q1 hprev
      rw [hCI] at c3 q2 hprev
      rw [← hXt] at hpr
      have hxs : x.size ≤ 1000 := by have := hwz.out x (by rw [← hxx]; exact List.getElem_mem hi); omega
      have hi2 : i < nl := by rw [← hnl.out]; exact hi
      have l1 : decide (LI < 1) = false := by simp; omega
      have l2 : decide ((nl : Int) < LI) = false := by simp; omega
      have l3 : IntKind.i64.wrap (LI - 1) = (i : Int) := by rw [IntWalk.i64_in _ (by omega)]; omega
      obtain ⟨S1, hS1⟩ : ∃ S1 : Int, (x.size : Int) + 1 = S1 := ⟨_, rfl⟩
      have l4 : IntKind.i64.wrap ((x.size : Int) + 1) = S1 := by rw [IntWalk.i64_in _ (by omega)]; exact hS1
      have l5 : decide (CI < 1) = false := by simp; omega
      have l6 : decide (S1 < CI) = false := by simp; omega
      have l7 : IntKind.i64.wrap (CI - 1) = (j : Int) := by rw [IntWalk.i64_in _ (by omega)]; omega
      have l8 : decide (LI = LI) = true := by simp
      have HP := Lib.hid (fun u => Tryd.strings_HasPrefix (x.extract j x.size) X u)
      rw [show (x.extract j x.size).data.toList = by_ (x.extract j x.size) from rfl, show X.data.toList = by_ X from rfl, hpr.out] at HP
      replace q1 := Lib.hid q1
      replace q2 := Lib.hid q2
      clear hxx hX hXt hLI hCI q4 hS1 hpr eg hK hi
      go_upto_region 15 with fail
      generalize hWW : World.alloc _ _ = W4
      have kb : At W4 wr.heap.size 51 #[.int .i64 K, .string X, .int .i64 LI, .int .i64 CI] := by rw [← hWW]; exact At.new' rfl
      have hbW : Below wr.heap.size wr W4 := by rw [← hWW]; exact below_al (Below.refl _ _) _
      have ho4 := Lib.hid (own_bel ho.out hbW)
      replace HB := below_then HB hbW
      have hx4 := cell_up hbW hx
      have hpr4 : Hid (∀ k0, k = k0 + 1 → ∃ L0 C0 : Int, (W4.cell? ⟨g1, k0 * 4 + 2, none⟩ = some (.int .i64 L0) ∧ W4.cell? ⟨g1, k0 * 4 + 3, none⟩ = some (.int .i64 C0)) ∧ (L0 < LI ∨ L0 = LI ∧ C0 < CI)) := Lib.hid (fun k0 hk0 => by
        obtain ⟨L0, C0, ⟨h1, h2⟩, h3⟩ := hprev.out k0 hk0
        exact ⟨L0, C0, ⟨cell_up hbW h1, cell_up hbW h2⟩, h3⟩)
      clear hWW hbW c0 c1 c2 c3 hprev hx ho
      have b2 : W4.cell? ⟨wr.heap.size, 2, none⟩ = some (.int .i64 LI) := kb.c 2
      have b3 : W4.cell? ⟨wr.heap.size, 3, none⟩ = some (.int .i64 CI) := kb.c 3
      have K2 := cell_regrown b2
      have K3 := cell_regrown b3
      have hk0 : k = 0 ∨ ∃ k0, k = k0 + 1 := by rcases k with _ | k0; exact .inl rfl; exact .inr ⟨k0, rfl⟩
      go_cut [106] (fun u wc => u = .bool false ∧ Below W4.heap.size W4 wc)
      case first =>
        rcases hk0 with hk0 | ⟨k0, hk0⟩
        · have f1 : decide ((0 : Int) < (k : Int)) = false := by simp; omega
          have f1n : decide (0 < k) = false := by simp; omega
          have f0 : ¬ 0 < k := by omega
          clear hk0
          refine wp_region_quiet_below (by kernel_rfl) (by kernel_rfl) ?_
          repeat (go_big_quiet_step ((first | fail)))
          refine wpQuiet_nil ?_
          intro v9 hb9'
          have hb9 := below_of_regrown hb9'
          clear hb9'
          go_wp2_with fail
          go_meet
          exact ⟨by first | rfl | simp, hb9⟩
        · obtain ⟨L0, C0, ⟨p2, p3⟩, hlt2⟩ := hpr4.out k0 hk0
          have f1 : decide ((0 : Int) < (k : Int)) = true := by simp; omega
          have f1n : decide (0 < k) = true := by simp; omega
          have f0 : 0 < k := by omega
          have f2 : IntKind.i64.wrap ((k : Int) - 1) = (k0 : Int) := by rw [IntWalk.i64_in _ (by omega)]; omega
          have f3 : k0 < n := by omega
          have K4 := cell_regrown p2
          have K5 := cell_regrown p3
          have f4 : decide (LI < L0) = false := by simp; omega
          clear hk0
          by_cases hq : LI = L0
          · have f5 : (LI == L0) = true := by simp [hq]
            have f6 : decide (CI ≤ C0) = false := by simp; omega
            clear hlt2 hq
            refine wp_region_quiet_below (by kernel_rfl) (by kernel_rfl) ?_
            repeat (go_big_quiet_step ((first | fail)))
            refine wpQuiet_nil ?_
            intro v9 hb9'
            have hb9 := below_of_regrown hb9'
            clear hb9'
            go_wp2_with fail
            go_meet
            exact ⟨by first | rfl | simp, hb9⟩
          · have f5 : (LI == L0) = false := by simp [hq]
            clear hlt2 hq
            refine wp_region_quiet_below (by kernel_rfl) (by kernel_rfl) ?_
            repeat (go_big_quiet_step ((first | fail)))
            refine wpQuiet_nil ?_
            intro v9 hb9'
            have hb9 := below_of_regrown hb9'
            clear hb9'
            go_wp2_with fail
            go_meet
            exact ⟨by first | rfl | simp, hb9⟩
      case rest =>
        obtain ⟨rfl, hbc⟩ := hcut
        have kq := At.bel kb hbc
        replace HB := below_then HB hbc
        have ho := Lib.hid (own_bel ho4.out hbc)
        have hx := cell_up hbc hx4
        clear hbc b2 b3 kb hpr4 ho4 hx4 l1 l2 K2 K3
        have b0 : wc.cell? ⟨wr.heap.size, 0, none⟩ = some (.int .i64 K) := kq.c 0
        have b1 : wc.cell? ⟨wr.heap.size, 1, none⟩ = some (.string X) := kq.c 1
        have b2 : wc.cell? ⟨wr.heap.size, 2, none⟩ = some (.int .i64 LI) := kq.c 2
        have b3 : wc.cell? ⟨wr.heap.size, 3, none⟩ = some (.int .i64 CI) := kq.c 3
        have HPB := Lib.hid (fun u : World => (show Calls Tryd.prog 28 #[.string (x.extract j x.size), .string X] u fun e w' => e = .returned (.bool true) ∧ Below u.heap.size u w' from (HP.out u).mono fun _ _ ⟨a, b⟩ => ⟨a, b ▸ Below.refl _ _⟩))
        clear HP
        go_upto_region 18 with fail
        have K1 := cell_regrown b1
        have K3 := cell_regrown b3
        refine wp_region_quiet_below (by kernel_rfl) (by kernel_rfl) ?_
        repeat (go_big_quiet_step ((first | with_reducible exact regrown_call HPB.out)))
        refine wpQuiet_nil ?_
        intro v9 hb9'
        have hb9 := below_of_regrown hb9'
        clear hb9'
        replace kq := At.bel kq hb9
        replace HB := below_then HB hb9
        replace ho := Lib.hid (own_bel ho.out hb9)
        clear hb9 b0 b1 b2 b3 hx K1 K3 l3 l4 l5 l6 l7 l8 HPB
        have b0 : v9.cell? ⟨wr.heap.size, 0, none⟩ = some (.int .i64 K) := kq.c 0
        have b1 : v9.cell? ⟨wr.heap.size, 1, none⟩ = some (.string X) := kq.c 1
        by_cases hK4 : K = 4
        · have f4 : (K == 4) = true := by simp [hK4]
          have hst : Hid (strT (l[k]'hkl.out) = .string ⟨#[10]⟩) := Lib.hid (by rw [hst1.out, if_pos hK4])
          clear hst1 hK4 kq
          go_wp2_with (at_builtin; refine wpList_append_own_at _ rfl _ _ 53 rfl W3.heap.size 9 iS (.string ⟨#[]⟩) 1 16 Tryd.underlying53 hs0 hs1 hs2 hs3 rfl (by decide) _ _ _ rfl (World.ownsRow.alloc ho.out _) ⟨v9.heap.size, 0, none⟩ 1 1 [.string ⟨#[10]⟩] rfl rfl (cell_one_new _ _ _) (by intro u hu; simp at hu; subst hu; rfl) (by unfold maxLen; omega) (by omega) (by have := HB.size; simp; omega) ?_)
          intro v' w5 ho1 hg1 hnil hloc
          have hb5 : Below W3.heap.size W3 w5 := HB.grown ((World.grownBy_alloc _ _ _).trans hg1) (by have := HB.size; omega) (fun j hj => (own_lt ho.out hj).2)
          have ho2 : Hid (w5.ownsRow W3.heap.size 9 1 v' (k + 1) ((l.take (k + 1)).map strT)) := Lib.hid (by
            rw [List.take_succ_eq_append_getElem hkl.out, List.map_append, List.map_singleton, hst.out]
            rw [← List.map_take] at ho1
            exact ho1)
          clear hg1 hnil hloc ho1
          go_wp2_with fail
          go_roundg (n - (k + 1))
          case measure => have := hr.out; omega
          case rel => exact ⟨k + 1, v', rfl, by omega, by go_num, Lib.hid rfl, hb5, ho2⟩
        · have f4 : (K == 4) = false := by simp [hK4]
          have hst : Hid (strT (l[k]'hkl.out) = .string X) := Lib.hid (by rw [hst1.out, if_neg hK4])
          clear hst1 hK4 kq
          go_wp2_with (at_builtin; refine wpList_append_own_at _ rfl _ _ 53 rfl W3.heap.size 9 iS (.string ⟨#[]⟩) 1 16 Tryd.underlying53 hs0 hs1 hs2 hs3 rfl (by decide) _ _ _ rfl (World.ownsRow.alloc ho.out _) ⟨v9.heap.size, 0, none⟩ 1 1 [.string X] rfl rfl (cell_one_new _ _ _) (by intro u hu; simp at hu; subst hu; rfl) (by unfold maxLen; omega) (by omega) (by have := HB.size; simp; omega) ?_)
          intro v' w5 ho1 hg1 hnil hloc
          have hb5 : Below W3.heap.size W3 w5 := HB.grown ((World.grownBy_alloc _ _ _).trans hg1) (by have := HB.size; omega) (fun j hj => (own_lt ho.out hj).2)
          have ho2 : Hid (w5.ownsRow W3.heap.size 9 1 v' (k + 1) ((l.take (k + 1)).map strT)) := Lib.hid (by
            rw [List.take_succ_eq_append_getElem hkl.out, List.map_append, List.map_singleton, hst.out]
            rw [← List.map_take] at ho1
            exact ho1)
          clear hg1 hnil hloc ho1
          go_wp2_with fail
          go_roundg (n - (k + 1))
          case measure => have := hr.out; omega
          case rel => exact ⟨k + 1, v', rfl, by omega, by go_num, Lib.hid rfl, hb5, ho2⟩
    · have hE : Hid (l.take k = l) := Lib.hid (List.take_of_length_le (by have := hn0.out; omega))
      have hkn : k = n := by omega
      rw [hkn] at ho hE
      clear hkn
      rw [hE.out] at ho
      obtain ⟨go_, capo, rfl, hgc, hgb, hgl⟩ := own_shape ho.out (by omega)
      have hcells : Hid (∀ (j : Nat) x, (l.map (fun t => (⟨(txT t).toArray⟩ : ByteArray)))[j]? = some x → wr.cell? ⟨go_, 0 + j, none⟩ = some (.string x)) := Lib.hid (by
        intro j x hx
        rw [List.getElem?_map, Option.map_eq_some_iff] at hx
        obtain ⟨t, ht, rfl⟩ := hx
        have hjl : j < n := by rw [← hn0.out]; exact (List.getElem?_eq_some_iff.1 ht).1
        have hc := ho.out.cellAt j (by omega)
        rw [List.getElem?_map, ht] at hc
        rw [Nat.zero_add]
        exact hc)
      have hmm : Hid ((l.map (fun t => (⟨(txT t).toArray⟩ : ByteArray))).map (·.data.toList) = l.map txT) := Lib.hid (by
        rw [List.map_map]
        rfl)
      have hjs : Hid (join ((l.map (fun t => (⟨(txT t).toArray⟩ : ByteArray))).map (·.data.toList)) [32] = joinT l) := Lib.hid (by rw [hmm.out]; exact join_T l)
      have HJ := Lib.hid (Tryd.strings_Join go_ 0 capo (l.map (fun t => (⟨(txT t).toArray⟩ : ByteArray))) ⟨#[32]⟩ wr hcells.out hgl (by rw [List.length_map, hn0.out]; omega) (by rw [List.length_map, hn0.out]; exact hgc) (by
        show (join _ [32]).length ≤ _
        rw [hjs.out]
        have := hjl0.out
        omega))
      rw [show join ((l.map (fun t => (⟨(txT t).toArray⟩ : ByteArray))).map (·.data.toList)) (⟨#[32]⟩ : ByteArray).data.toList = joinT l from hjs.out, List.length_map, hn0.out] at HJ
      have HT2 := Lib.hid (fun u => tokens_any ⟨(joinT l).toArray⟩ u)
      rw [show by_ (⟨(joinT l).toArray⟩ : ByteArray) = joinT l by simp, hj0.out] at HT2
      obtain ⟨Jn, hJn⟩ : ∃ Jn : ByteArray, ⟨(joinT l).toArray⟩ = Jn := ⟨_, rfl⟩
      rw [hJn] at HJ HT2
      have ta5 := Lib.hid (And.intro (ta3.out.1.bel HB ta3.out.2) (fun g (h : (some ⟨g1, 0, none⟩ : Option Addr) = some ⟨g, 0, none⟩) => Nat.lt_of_lt_of_le (ta3.out.2 g h) HB.size))
      replace HB2 := below_then HB2 (HB : Below W3.heap.size W3 wr)
      clear hE hcells hmm hjs hJn ho hgc hgb hgl ta3 HB hst hknown
      go_wp2_with fail
      refine HJ.out.mono ?_
      rintro e v1 ⟨rfl, b1⟩
      replace HB2 := below_then HB2 b1
      have ta6 := Lib.hid (And.intro (ta5.out.1.bel b1 ta5.out.2) (fun g (h : (some ⟨g1, 0, none⟩ : Option Addr) = some ⟨g, 0, none⟩) => Nat.lt_of_lt_of_le (ta5.out.2 g h) b1.size))
      have HT3 := Lib.hid (HT2.out v1)
      clear HJ HT2 b1 ta5
      go_wp2_with fail
      refine HT3.out.mono ?_
      rintro e v2 ⟨⟨t2, rfl, hown2⟩, b2⟩
      obtain ⟨a2, cap2, rfl, hc2, tb⟩ := own_tok hown2
      dsimp only at tb hc2
      replace HB2 := below_then HB2 b2
      have ta7 := Lib.hid (And.intro (ta6.out.1.bel b2 ta6.out.2) (fun g (h : (some ⟨g1, 0, none⟩ : Option Addr) = some ⟨g, 0, none⟩) => Nat.lt_of_lt_of_le (ta6.out.2 g h) b2.size))
      dsimp only
      clear HT3 b2 ta6 hown2
      go_upto_region 25 with fail
      generalize hWW : World.alloc _ _ = W5
      have hbW : Below v2.heap.size v2 W5 := by rw [← hWW]; exact below_al (Below.refl _ _) _
      replace HB2 := below_then HB2 hbW
      have HQ := Lib.hid (ktEq_any l ts hkt0.out.symm (some ⟨g1, 0, none⟩) a2 cap1 cap2 (by rw [hn0.out]; omega) (by rw [hn0.out]; exact hc1) hc2 W5 (Lib.hid ⟨ta7.out.1.bel hbW ta7.out.2, fun g h => Nat.lt_of_lt_of_le (ta7.out.2 g h) hbW.size⟩) (Lib.hid ⟨tb.out.1.bel hbW tb.out.2, fun g h => Nat.lt_of_lt_of_le (tb.out.2 g h) hbW.size⟩))
      rw [hn0.out] at HQ
      clear hWW hbW ta7 tb
      go_wp2_with fail
      refine HQ.out.mono ?_
      rintro e v3 ⟨rfl, b3⟩
      replace HB2 := below_then HB2 b3
      go_wp2_with fail
      go_ret
      exact ⟨rfl, HB2⟩

end Go.Proofs.YtdbgfeeglnpobaaDoor
