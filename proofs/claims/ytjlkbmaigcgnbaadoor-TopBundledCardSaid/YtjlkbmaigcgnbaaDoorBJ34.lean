/- lorry's search: a visit that goes on. -/
import Derived.Test.YtjlkbmaigcgnbaaDoorBJ29
import Derived.Test.YtjlkbmaigcgnbaaDoorBJ33
set_option linter.unusedVariables false
namespace Go.Proofs.YtjlkbmaigcgnbaaDoor
open Go.ChangeShapes Go.WideShapes Go.ChangeAt Go.RowKit Go.Maps Go.ChangeMaps Go.WideMaps
theorem row_far {α : Type} {enc : α → List Value} {sz B : Nat} {w w' : World} {ao : Option Addr} {l : List α} (h : RowAt enc sz B w ao l) (hb : Below B w w') : RowAt enc sz B w' ao l := fun q hq => by
  obtain ⟨b, off, e, hlt, hcc⟩ := h q hq
  exact ⟨b, off, e, hlt, fun j u hu => (hb.cell hlt).trans (hcc j u hu)⟩
theorem look_regrown {w : World} {m n : Nat} {acc : List Int} (h : SeenZ w m n acc) (s : Int) (hs : -9223372036854775808 ≤ s ∧ s ≤ 9223372036854775807) (d : Nat) (os : Array Obj) : (Instr.lookup 74 (.map (some m)) (.int .i64 s) false).run Tryd.prog (Go.Sort.grow (redrawn w d) os) = .ok (.bool (decide (s ∈ acc))) (Go.Sort.grow (redrawn w d) os) := (h.bel (below_regrown w d os)).look s hs
set_option maxRecDepth 100000 in
set_option maxHeartbeats 2000000 in
theorem visC_any (l : List Bun) (a : Option Addr) (c : Nat) (o : List Nat) (oa : Option Addr) (oc n : Nat) (most : Int) (S : Nat) (w0 : World) (hn : l.length = n) (hn2 : n ≤ 900) (hlc : n ≤ c) (hcc : c ≤ 9223372036854775807) (hon : o.length = n) (hoc : n ≤ oc ∧ oc ≤ 9223372036854775807) (hfit : Hid (∀ x ∈ o, x < n ∧ 0 ≤ massN l x ∧ massN l x ≤ most)) (hmost : 1 ≤ most ∧ most ≤ 1099511627776) (hrow : Hid (RowAt encB 4 S w0 a l)) (hord : Hid (RowAt encZ 1 S w0 oa (castZ o)))
    (k i : Nat) (r : List Nat) (hk : k < o.length) (hki : o[k] = i)
    (HIH : Hid (∀ (L : List (List Nat)) (ms : List Int) (vo vm : Value) (cs : List Value) (best : Fnd) (bv : Value) (w : World), ObjS w S (.slice a n c) (.slice oa n oc) most bv best → LdX S w L ms vo vm cs → L.length ≤ k + 1 → (∀ ld ∈ L, ld.length ≤ k + 1) → (∀ x ∈ ms, 0 ≤ x ∧ x ≤ most) → Below S w0 w → 0 < L.length → Calls Tryd.prog 32 #[.pointer (some ⟨S, 0, none⟩), .int .i64 ((k + 1 : Nat) : Int), vo, vm] w fun e w' => e = .returned (.tuple #[]) ∧ VisE S (.slice a n c) (.slice oa n oc) most L ms vo vm cs w (visitV (massN l) most r L ms best) w'))
    (L : List (List Nat)) (ms : List Int) (vo vm : Value) (cs : List Value) (best : Fnd) (bv : Value) (w : World) (hA : ObjS w S (.slice a n c) (.slice oa n oc) most bv best) (hL : LdX S w L ms vo vm cs) (hLk : L.length ≤ k) (hls : ∀ ld ∈ L, ld.length ≤ k) (hms : ∀ x ∈ ms, 0 ≤ x ∧ x ≤ most) (hw : Below S w0 w) (hp : prunB L best = false) :
    Calls Tryd.prog 32 #[.pointer (some ⟨S, 0, none⟩), .int .i64 (k : Int), vo, vm] w fun e w' => e = .returned (.tuple #[]) ∧ VisE S (.slice a n c) (.slice oa n oc) most L ms vo vm cs w (visitV (massN l) most (i :: r) L ms best) w' := by
  have hmm := @run_makeMap Tryd.prog
  obtain ⟨i0, hi, hz0, hz1, hz2⟩ := info_parts infoInt
  obtain ⟨j0, hj, hj0, hj1, hj2⟩ := info_parts infoIS
  have hSlt := hA.1.lt
  have hI0 := Lib.hid (VisI.start hA hL)
  have hbest := hA.2.nil
  have hAt := hA.1
  obtain ⟨ao, co, hvo⟩ := own_slice hL.o
  obtain ⟨am, cm, hvm⟩ := own_slice hL.m
  rw [hL.n] at hvo
  rw [hL.nm] at hvm
  have hnL := Lib.hid hL.nm
  have hcnt : L.length ≤ co ∧ co ≤ 9223372036854775807 ∧ L.length ≤ cm ∧ cm ≤ 9223372036854775807 := by
    have h1 := hL.o
    have h2 := hL.m
    rw [hvo, hL.n] at h1
    rw [hvm, hL.nm] at h2
    refine ⟨?_, ?_, ?_, ?_⟩
    · obtain ⟨_, ⟨e, e2⟩ | ⟨g, cap, cur, e, q2, q3, q4, q5, q6⟩⟩ := h1
      · omega
      · injection e with e1 e2 e3; omega
    · obtain ⟨_, ⟨e, e2⟩ | ⟨g, cap, cur, e, q2, q3, q4, q5, q6⟩⟩ := h1
      · injection e with e1 e2 e3; omega
      · injection e with e1 e2 e3; unfold maxLen at q5; omega
    · obtain ⟨_, ⟨e, e2⟩ | ⟨g, cap, cur, e, q2, q3, q4, q5, q6⟩⟩ := h2
      · omega
      · injection e with e1 e2 e3; omega
    · obtain ⟨_, ⟨e, e2⟩ | ⟨g, cap, cur, e, q2, q3, q4, q5, q6⟩⟩ := h2
      · injection e with e1 e2 e3; omega
      · injection e with e1 e2 e3; unfold maxLen at q5; omega
  obtain ⟨hin, hif0, hif1⟩ := hfit.out i (by rw [← hki]; exact List.getElem_mem hk)
  have hil : i < l.length := by omega
  have hmi : l[i].mass = massN l i := by unfold massN; rw [List.getElem?_eq_getElem hil]
  have hordW := row_far hord.out hw
  have hrowW := row_far hrow.out hw
  obtain ⟨ob, oo, rfl, c0, -⟩ := (show RowAt (fun x => [Value.int .i64 x]) 1 S w oa (castZ o) from hordW).one k (by unfold castZ; rw [List.length_map]; exact hk)
  have hcz : (castZ o)[k]'(by unfold castZ; rw [List.length_map]; exact hk) = (i : Int) := by unfold castZ; rw [List.getElem_map, hki]
  rw [hcz] at c0
  obtain ⟨bb, bo, rfl, -, -, -, b3, -⟩ := hrowW.bun i hil
  rw [hmi] at b3
  have hkn : k < n := by omega
  obtain ⟨f, hf⟩ : ∃ f, massN l = f := ⟨_, rfl⟩
  rw [hf] at HIH hif0 hif1 b3
  rw [hf]
  obtain ⟨mi, hmi2⟩ : ∃ mi, f i = mi := ⟨_, rfl⟩
  obtain ⟨RR, hRR⟩ : ∃ RR, visitV f most (i :: r) L ms best = RR := ⟨_, rfl⟩
  rw [hRR]
  have hRR2 : Hid (visitV f most r (L ++ [[i]]) (ms ++ [mi]) (waysV most mi ms (fun j b => visitV f most r (L.modify j (· ++ [i])) (ms.modify j (· + mi)) b) L.length 0 [] best) = RR) := Lib.hid (by
    rw [← hRR, visitV, hp, hmi2]
    rfl)
  rw [hmi2] at b3 hif0 hif1
  obtain ⟨q, hq⟩ : ∃ q, L.length = q := ⟨_, rfl⟩
  have hbv : Hid (bv = .slice none 0 0 ∨ ∃ g z c, bv = .slice (some ⟨g, 0, none⟩) z c ∧ q < z ∧ z ≤ 1000) := Lib.hid (by
    rcases hbest with ⟨-, e⟩ | ⟨b, g, c, e1, e2, e3⟩
    · exact .inl e
    · refine .inr ⟨g, b.length, c, e2, ?_, e3⟩
      rw [e1] at hp
      unfold prunB at hp
      simp at hp
      rw [← hq]
      exact hp)
  subst hvo hvm
  have hq' := Lib.hid hq
  rw [hq] at hLk hcnt hRR2 hI0 ⊢
  have x0 : w.cell? ⟨S, 0, none⟩ = some (.slice (some ⟨bb, bo, none⟩) n c) := hAt.c 0
  have x1 : w.cell? ⟨S, 1, none⟩ = some (.slice (some ⟨ob, oo, none⟩) n oc) := hAt.c 1
  have x3 : w.cell? ⟨S, 3, none⟩ = some bv := hAt.c 3
  have qT : ∀ (w : World) (a : Option Addr) (n c n' c' : Nat), (binOp .neq 35 (.slice a n c) (.slice none n' c')).run Tryd.prog w = .ok (.bool (!a.isNone)) w := fun w a n c n' c' => run_neq_slice_nil_any w _ _ a n c n' c' Tryd.underlying35
  have hkk : ((k : Int) == (n : Int)) = false := by simp; omega
  replace hms := Lib.hid hms
  replace hls := Lib.hid hls
  have hww := Lib.hid hw
  clear hA hL hAt hbest hordW hrowW hcz hf hmi hmi2 hRR hp hq hon hn hki hk hw
  go_enter Tryd.func32, Tryd.ntmps32
  go_upto_region 0 with fail
  go_cut [28] from 14 to 28 (fun v wx => v = .bool false ∧ w = wx)
  case first =>
    rcases hbv.out with rfl | ⟨g, z, c, rfl, h1, h2⟩
    · go_wp2_with fail
      go_meet
      exact ⟨rfl, rfl⟩
    · have g1 : decide ((z : Int) ≤ (q : Int)) = false := decide_eq_false (by omega)
      go_wp2_with fail
      go_meet
      exact ⟨by first | rfl | (rw [decide_eq_false (by omega)]; done), rfl⟩
  case rest =>
    clear hbv x3
    obtain ⟨rfl, rfl⟩ := hcut
    go_wp2_with fail
    go_loopg [75] q (fun g1 j wr => ∃ (j0 : Nat) (cs' : List Value) (seen : List Int) (bv' : Value) (best' : Fnd), j0 ≤ q ∧ j = .int .i64 (j0 : Int) ∧ Hid (g1 = q - j0 ∧ seen.length ≤ j0) ∧ Hid (VisI S w.heap.size (.slice (some ⟨bb, bo, none⟩) n c) (.slice (some ⟨ob, oo, none⟩) n oc) most (.slice ao q co) (.slice am q cm) cs w L ms cs' seen bv' best' wr) ∧ Hid (visitV f most r (L ++ [[i]]) (ms ++ [mi]) (waysV most mi ms (fun j b => visitV f most r (L.modify j (· ++ [i])) (ms.modify j (· + mi)) b) (q - j0) j0 seen best') = RR))
    case atStart => exact ⟨0, cs, [], bv, best, Nat.zero_le _, rfl, Lib.hid ⟨rfl, Nat.le_refl _⟩, hI0, hRR2⟩
    case round =>
      clear hI0 hRR2 x0 x1 c0 b3
      obtain ⟨j, cs', seen, bv', best', hjq, rfl, hr, hI, hE⟩ := hrel
      by_cases hlt : j < q
      · have hqL : Hid (j < L.length) := Lib.hid (by rw [hq'.out]; exact hlt)
        obtain ⟨gm, cm', e, hSg, hgl, fm, hjm, cmj⟩ := hI.out.ld.mass hqL.out
        injection e with e1 e2 e3
        subst e1 e3
        clear e2
        have hxb := hms.out _ (List.getElem_mem hjm)
        have hgD : ms.getD j 0 = ms[j]'hjm := by rw [List.getD_eq_getElem?_getD, List.getElem?_eq_getElem hjm]; rfl
        have hgQ : Hid (ms[j]? = some (ms[j]'hjm)) := Lib.hid (List.getElem?_eq_getElem hjm)
        obtain ⟨x, hx⟩ : ∃ x, ms[j]'hjm = x := ⟨_, rfl⟩
        rw [hx] at cmj hxb hgD hgQ
        clear hx
        obtain ⟨s, hs⟩ : ∃ s, x + mi = s := ⟨_, rfl⟩
        have z1 : IntKind.i64.wrap (x + mi) = s := by rw [hs, IntWalk.i64_in _ (by omega)]
        have x2 : wr.cell? ⟨S, 2, none⟩ = some (.int .i64 most) := hI.out.obj.1.c 2
        have K0 := cell_regrown cmj
        have K1 := cell_regrown x2
        have KL := look_regrown hI.out.seen x (by omega)
        have hqj : q - j = (q - (j + 1)) + 1 := by omega
        by_cases q1 : x ∈ seen
        · have g1 : decide (x ∈ seen.reverse) = true := decide_eq_true (by simpa using q1)
          rw [g1] at KL
          have hE2 := Lib.hid hE.out
          have hE3 : Hid (visitV f most r (L ++ [[i]]) (ms ++ [mi]) (waysV most mi ms (fun j b => visitV f most r (L.modify j (· ++ [i])) (ms.modify j (· + mi)) b) (q - (j + 1)) (j + 1) seen best') = RR) := Lib.hid (by
            have h1 := hE.out
            rw [hqj, waysV, hgD, if_pos (by simp [q1])] at h1
            exact h1)
          clear hE hE2 q1 hqj hgD g1
          go_upto_region 14 with fail
          refine wp_region_quiet_below (by kernel_rfl) (by kernel_rfl) ?_
          repeat (go_big_quiet_step (fail))
          refine wpQuiet_nil ?_
          intro v1 hb'
          have hb := below_of_regrown hb'
          have hI1 := Lib.hid (hI.out.al hb)
          clear hb' hb K0 K1 KL hI cmj x2
          go_wp2_with fail
          go_roundg (q - (j + 1))
          case measure => have := hr.out.1; omega
          case rel => exact ⟨j + 1, cs', seen, bv', best', by omega, by go_num, Lib.hid ⟨rfl, by have := hr.out.2; omega⟩, hI1, hE3⟩
        · have g1 : decide (x ∈ seen.reverse) = false := decide_eq_false (by simpa using q1)
          rw [g1] at KL
          by_cases q2 : most < s
          · have hE3 : Hid (visitV f most r (L ++ [[i]]) (ms ++ [mi]) (waysV most mi ms (fun j b => visitV f most r (L.modify j (· ++ [i])) (ms.modify j (· + mi)) b) (q - (j + 1)) (j + 1) seen best') = RR) := Lib.hid (by
              have h1 := hE.out
              rw [hqj, waysV, hgD, hs, if_pos (by simp [q2])] at h1
              exact h1)
            have g2 : decide (most < s) = true := decide_eq_true q2
            clear hE q1 hqj hgD g1 q2 hs
            go_upto_region 14 with fail
            refine wp_region_quiet_below (by kernel_rfl) (by kernel_rfl) ?_
            repeat (go_big_quiet_step (fail))
            refine wpQuiet_nil ?_
            intro v1 hb'
            have hb := below_of_regrown hb'
            have hI1 := Lib.hid (hI.out.al hb)
            clear hb' hb K0 K1 KL hI cmj x2
            go_wp2_with fail
            go_roundg (q - (j + 1))
            case measure => have := hr.out.1; omega
            case rel => exact ⟨j + 1, cs', seen, bv', best', by omega, by go_num, Lib.hid ⟨rfl, by have := hr.out.2; omega⟩, hI1, hE3⟩
          · have hE3 : Hid (visitV f most r (L ++ [[i]]) (ms ++ [mi]) (waysV most mi ms (fun j b => visitV f most r (L.modify j (· ++ [i])) (ms.modify j (· + mi)) b) (q - (j + 1)) (j + 1) (x :: seen) (visitV f most r (L.modify j (· ++ [i])) (ms.modify j (· + mi)) best')) = RR) := Lib.hid (by
              have h1 := hE.out
              rw [hqj, waysV, hgD, hs, if_neg (by simp [q1, q2])] at h1
              exact h1)
            have g2 : decide (most < s) = false := decide_eq_false q2
            have hsb : 0 ≤ s ∧ s ≤ most := by omega
            have hmset : Hid (ms.set j s = ms.modify j (· + mi)) := Lib.hid (by rw [← hs]; exact set_mod ms j hjm x mi hgQ.out)
            have hq1 := Lib.hid q1
            have z2 : IntKind.i64.wrap (s - mi) = x := by rw [← hs, IntWalk.i64_in _ (by omega)]; omega
            clear hE q1 hqj hgD g1 q2 hs
            go_upto_region 14 with fail
            refine wp_region_quiet_below (by kernel_rfl) (by kernel_rfl) ?_
            repeat (go_big_quiet_step (fail))
            refine wpQuiet_nil ?_
            intro v1 hb'
            have hb := below_of_regrown hb'
            have hI1 := Lib.hid (hI.out.al hb)
            have d1 := cell_up hb cmj
            clear hb' hb K0 K1 KL hI cmj x2 g2 fm
            have hkey := keyZ_of x (by omega)
            obtain ⟨D, hown, hat1, hat2, hat3⟩ := hI1.out.seen
            have hD := Lib.hid hown.isMap
            have hT := Lib.hid (hown.tidy key_int)
            replace hat1 := Lib.hid hat1
            replace hat2 := Lib.hid hat2
            replace hat3 := Lib.hid hat3
            have hsn : Hid (seen.length < maxLen) := Lib.hid (by
              have h1 := hr.out.2
              unfold maxLen
              omega)
            go_wp2_with (first | (at_mapUpdate; refine wpList_mapUpdate_own _ rfl _ _ _ 74 rfl 3 4 key_int Tryd.underlying74 _ w.heap.size seen.length _ rfl hown hsn.out _ _ _ rfl rfl hkey _ [] (plainElem_bool Tryd.underlying4 true) ?_) | go_in)
            intro w5 hown5 hg5
            have hI2 := Lib.hid (hI1.out.mark hg5 (seenZ_put hown5 hD.out hT.out hat1.out hat2.out hat3.out (by simpa using hq1.out)))
            clear hown hown5 hg5 hD hT hat1 hat2 hat3 hI1 d1 hkey hsn
            obtain ⟨go, co', aj, cj, e, -, hSo, hgo, c0, f0, hnc, hcm, hjc, hcsj, hInt⟩ := hI2.out.ld.cell hqL.out
            injection e with e1 e2 e3
            subst e1 e3
            clear e2
            have hnl := hls.out _ (List.getElem_mem hqL.out)
            obtain ⟨nj, hnj⟩ : ∃ nj, (L[j]'hqL.out).length = nj := ⟨_, rfl⟩
            rw [hnj] at c0 hnc hcsj hInt hnl
            have hInt2 := Lib.hid (fun (ob : Obj) => hInt.keep (KeepI.al (w := w5) ob))
            have hcj := Lib.hid hcsj
            have hnj2 := Lib.hid hnj
            have hS5 := Lib.hid hI2.out.obj.1.lt
            clear hInt hcsj hnj
            go_wp2_with (at_builtin; refine wpList_append_int rfl _ _ rfl S (.slice aj nj cj) nj rfl (hInt2.out _) (i : Int) ⟨w5.heap.size, 0, none⟩ 1 rfl (by simp) (by omega) (by have := hS5.out; simp; omega) ?_)
            intro v' w6 hv' hg6 hk6 hl6
            obtain ⟨a', c', rfl, hn', hc'⟩ := hv'.slice
            have hce := hcj.out
            have hcl := hjc
            obtain ⟨hI3, c1, f1⟩ := (hI2.out.al (below_al (Below.refl _ _) (.cells #[.int .i64 (i : Int)] 3))).app (g := go) (j := j) (v' := .slice a' (nj + 1) c') (L2 := L.modify j (· ++ [i])) rfl hcl (by rw [List.length_modify]) (fun t h1 h2 e => by rw [List.getElem_modify, if_neg e]) (fun h2 => by rw [List.getElem_modify, if_pos rfl, List.length_append, List.length_singleton, hnj2.out]; exact hv') (by rw [hce]; exact hg6) hk6 (by rw [hce, show ∀ ob, (w5.alloc ob).heap.size = w5.heap.size + 1 from fun ob => by simp]; exact hl6)
            rw [hce] at c1
            have hmo : Hid ((L.modify j (· ++ [i])).length = q) := Lib.hid (by rw [List.length_modify, hq'.out])
            replace hI3 := Lib.hid hI3
            clear c0 f0 hg6 hk6 hl6 hv' hI2 hInt2 hce hcj
            go_upto_region 17 with fail
            generalize hWW : World.setCell w6 _ _ = W7 at hI3 ⊢
            obtain ⟨gm2, cm2, e, -, -, f2, hjm2, c2⟩ := hI3.out.ld.mass (j := j) (by rw [hmo.out]; exact hlt)
            injection e with e1 e2 e3
            injection e1 with e1
            injection e1 with e1
            subst e1 e3
            have hgx : ms[j]'hjm2 = x := by
              have h1 := hgQ.out
              rw [List.getElem?_eq_getElem hjm2] at h1
              injection h1
            rw [hgx] at c2
            have hI4 := Lib.hid (hI3.out.massTo (g := gm) (j := j) rfl hjm2 s)
            clear hWW c1 f1 e2 hgx hI3
            go_upto_region 18 with fail
            generalize hWW : World.setCell W7 _ _ = W8 at hI4 ⊢
            have HK := Lib.hid (HIH.out (L.modify j (· ++ [i])) (ms.set j s) _ _ _ best' bv' W8 hI4.out.obj hI4.out.ld (by rw [hmo.out]; omega) (fun ld hld => by
              obtain ⟨t, ht, rfl⟩ := List.getElem_of_mem hld
              rw [List.length_modify] at ht
              have h1 := hls.out _ (List.getElem_mem ht)
              rw [List.getElem_modify]
              split
              · rw [List.length_append, List.length_singleton]; omega
              · omega) (fun y hy => by
              rcases List.mem_or_eq_of_mem_set hy with h | h
              · exact hms.out y h
              · omega) (hww.out.trans hI4.out.vis.bel) (by rw [hmo.out]; omega))
            rw [hmset.out] at HK
            have hk1 : IntKind.i64.wrap ((k : Int) + 1) = ((k + 1 : Nat) : Int) := by rw [IntWalk.i64_in _ (by omega)]; omega
            clear hWW c2 f2
            go_wp2_with fail
            refine HK.out.mono ?_
            rintro e w9 ⟨rfl, hVE⟩
            rw [← hmset.out] at hVE
            obtain ⟨bv2, cs2, hI5⟩ := hI4.out.call hVE
            replace hI5 := Lib.hid hI5
            clear HK hI4 hVE hk1
            obtain ⟨gm2, cm2, e, -, -, f2, hjm3, c2⟩ := hI5.out.ld.mass (j := j) (by rw [hmo.out]; exact hlt)
            injection e with e1 e2 e3
            injection e1 with e1
            injection e1 with e1
            subst e1 e3
            have hgx : (ms.set j s)[j]'hjm3 = s := by rw [List.getElem_set, if_pos rfl]
            rw [hgx] at c2
            have hback : (ms.set j s).set j x = ms := by
              rw [List.set_set]
              refine List.ext_getElem? fun t => ?_
              rw [List.getElem?_set]
              by_cases e : j = t
              · subst e
                rw [if_pos rfl, if_pos hjm, hgQ.out]
              · rw [if_neg e]
            have hI6 := hI5.out.massTo (g := gm) (j := j) rfl hjm3 x
            rw [hback] at hI6
            replace hI6 := Lib.hid hI6
            clear e2 hgx hback hI5
            go_upto_region 20 with fail
            generalize hWW : World.setCell w9 _ _ = W10 at hI6 ⊢
            clear hWW c2 f2
            obtain ⟨go2, co2, a2, c2, e, -, hSo2, hgo2, c0, f0, hnc2, hcm2, hj3, hcs2, hInt⟩ := hI6.out.ld.cell (j := j) (by rw [hmo.out]; exact hlt)
            injection e with e1 e2 e3
            injection e1 with e1
            injection e1 with e1
            subst e1
            have hlj : ((L.modify j (· ++ [i]))[j]'(by rw [hmo.out]; exact hlt)).length = nj + 1 := by rw [List.getElem_modify, if_pos rfl, List.length_append, List.length_singleton, hnj2.out]
            rw [hlj] at c0 hnc2 hcs2 hInt
            have z3 : IntKind.i64.wrap (((nj + 1 : Nat) : Int) - 1) = (nj : Int) := by rw [IntWalk.i64_in _ (by omega)]; omega
            unfold maxLen at hcm2
            have z4 : IntKind.i64.wrap (nj : Int) = (nj : Int) := IntWalk.i64_in _ (by omega)
            have z5 : nj ≤ c2 := by omega
            clear hcs2 hInt e2 e3 hj3
            go_still_tail 14, (by kernel_rfl)
            change wpList _ _ _ _ _ (World.drew W10)
            have hI8 := hI6.out.al (drew_bel W10)
            have d0 := cell_up (drew_bel W10) c0
            have e0 : (World.drew W10).frozen? ⟨go, j, none⟩ = false := f0
            generalize World.drew W10 = W11 at hI8 d0 e0 ⊢
            obtain ⟨go3, co3, a3, c3, e, -, -, -, d1, -, -, -, hj3, hcs2, hInt⟩ := hI8.ld.cell (j := j) (by rw [hmo.out]; exact hlt)
            injection e with e1 e2 e3
            injection e1 with e1
            injection e1 with e1
            subst e1
            rw [d0] at d1
            injection d1 with d1
            injection d1 with h1 h2 h3
            subst h1 h3
            rw [hlj] at hcs2 hInt
            have hI7 := Lib.hid (hI8.cut (g := go) (j := j) (u := .slice a2 nj c2) (L2 := L) rfl hj3 (by rw [List.length_modify]) (fun t h1 h2 e => by rw [List.getElem_modify, if_neg e]) (fun h2 => by rw [hnj2.out]; exact hInt.cut (by omega)) (by rw [hcs2]; cases a2 <;> rfl))
            clear hI6 hI8 c0 f0 hlj hcs2 hInt h2 e2 e3
            go_wp2_with fail
            go_roundg (q - (j + 1))
            case measure => have := hr.out.1; omega
            case rel => exact ⟨j + 1, _, x :: seen, bv2, _, by omega, by go_num, Lib.hid ⟨rfl, by have := hr.out.2; rw [List.length_cons]; omega⟩, hI7, Lib.hid (by have h := hE3.out; rw [← hmset.out] at h; exact h)⟩
      · have hjq2 : j = q := by omega
        have hE3 : Hid (visitV f most r (L ++ [[i]]) (ms ++ [mi]) best' = RR) := Lib.hid (by
          have h1 := hE.out
          rwa [show q - j = 0 by omega, waysV] at h1)
        have HCo := Lib.hid (fun w => clipO_any ao q co w hcnt.1 hcnt.2.1)
        have HCi := Lib.hid (fun w => clipI_any am q cm w hcnt.2.2.1 hcnt.2.2.2)
        have hk1 : IntKind.i64.wrap ((k : Int) + 1) = ((k + 1 : Nat) : Int) := by rw [IntWalk.i64_in _ (by omega)]; omega
        have hR1 : Hid (ClipR wr ao q cs') := Lib.hid (by have h := hI.out.ld.o; rw [hI.out.ld.n, hq'.out] at h; exact ClipR.of h)
        have hR2 : Hid (ClipR wr am q (intV ms)) := Lib.hid (by have h := hI.out.ld.m; rw [hnL.out, hq'.out] at h; exact ClipR.of h)
        have hcn := Lib.hid hI.out.ld.n
        have hSw := Lib.hid hI.out.obj.1.lt
        clear hE
        go_wp2_with fail
        refine (HCo.out _).mono ?_
        rintro e w1 ⟨rfl, rfl⟩
        go_wp2_with (at_builtin; refine wpList_append_full rfl _ _ 35 rfl 42 j0 (.slice none 0 0) 24 Tryd.underlying35 hj hj0 hj1 hj2 (by decide) rfl ao q cs' rfl (hR1.out.up (below_al (below_al (Below.refl _ _) _) _)) ⟨wr.heap.size + 1, 0, none⟩ 1 (.slice (some ⟨wr.heap.size, 0, none⟩) 1 1) rfl (by simp) (by omega) ?_)
        intro go2 co2 w2 ho2 hb2
        replace hb2 := (show Below ((wr.alloc (.cells #[.int .i64 (i : Int)] 3)).alloc (.cells #[.slice (some ⟨wr.heap.size, 0, none⟩) 1 1] 42)).heap.size ((wr.alloc (.cells #[.int .i64 (i : Int)] 3)).alloc (.cells #[.slice (some ⟨wr.heap.size, 0, none⟩) 1 1] 42)) w2 by
          rw [show ∀ (a b : Obj), ((wr.alloc a).alloc b).heap.size = wr.heap.size + 1 + 1 from fun a b => by simp]
          exact hb2)
        have hu : Hid (IntB w2 wr.heap.size 1) := Lib.hid (by
          have h1 : IntB ((wr.alloc (.cells #[.int .i64 (i : Int)] 3)).alloc (.cells #[.slice (some ⟨wr.heap.size, 0, none⟩) 1 1] 42)) wr.heap.size 1 := ⟨[(i : Int)], rfl, by
            have h2 := (At.new wr 3 #[.int .i64 (i : Int)]).al (.cells #[.slice (some ⟨wr.heap.size, 0, none⟩) 1 1] 42)
            exact h2⟩
          exact KeepI.bel hb2 _ _ h1)
        have HB2 : Below wr.heap.size wr w2 := below_then (below_al (below_al (Below.refl _ _) _) _) hb2
        have hsz2 := hb2.size
        rw [show ∀ (a b : Obj), ((wr.alloc a).alloc b).heap.size = wr.heap.size + 1 + 1 from fun a b => by simp] at hsz2
        replace ho2 := Lib.hid ho2
        clear hb2 HCo
        go_wp2_with fail
        refine (HCi.out _).mono ?_
        rintro e w1 ⟨rfl, rfl⟩
        go_wp2_with (at_builtin; refine wpList_append_full rfl _ _ 42 rfl 3 i0 (.int .i64 0) 8 Tryd.underlying42 hi hz0 hz1 hz2 (by decide) rfl am q (intV ms) rfl ((hR2.out.up HB2).up (below_al (Below.refl _ _) _)) ⟨w2.heap.size, 0, none⟩ 1 (.int .i64 mi) rfl (by simp) (by omega) ?_)
        intro gm2 cm2 w4 ho4 hb4
        replace hb4 := (show Below (w2.alloc (.cells #[.int .i64 mi] 3)).heap.size (w2.alloc (.cells #[.int .i64 mi] 3)) w4 by
          rw [show ∀ (a : Obj), (w2.alloc a).heap.size = w2.heap.size + 1 from fun a => by simp]
          exact hb4)
        have HB4 : Below w2.heap.size w2 w4 := below_then (below_al (Below.refl _ _) _) hb4
        have HB := below_then HB2 HB4
        have hcs := hcn.out
        have hqq := hq'.out
        have hnm := hnL.out
        have hS2 := hSw.out
        have ho2' := World.ownsRow_up ho2.out HB4
        have hld : LdX S w4 (L ++ [[i]]) (ms ++ [mi]) (.slice go2 (q + 1) co2) (.slice gm2 (q + 1) cm2) (cs' ++ [.slice (some ⟨wr.heap.size, 0, none⟩) 1 1]) := {
          o := by
            rw [List.length_append, List.length_singleton, hcs, hqq]
            exact own_weak ho2' (by omega)
          m := by
            rw [List.length_append, List.length_singleton, hnm, hqq, intV_app]
            exact own_weak ho4 (by omega)
          n := by simp [hcs]
          nm := by simp [hnm]
          each := fun t h1 h2 => by
            by_cases qt : t < cs'.length
            · rw [List.getElem_append_left qt, List.getElem_append_left (by omega)]
              exact (hI.out.ld.each t qt (by omega)).keep (KeepI.bel HB)
            · rw [List.getElem_append_right (by omega), List.getElem_append_right (by omega), List.getElem_singleton, List.getElem_singleton]
              exact .inr ⟨wr.heap.size, 1, rfl, hS2, Nat.le_refl _, by unfold maxLen; decide, KeepI.bel HB4 _ _ hu.out⟩
          om := fun b h1 h2 => by
            have := (own_lt ho2.out h1).1
            have := (own_lt ho4 h2).2
            omega
          ov := fun t h1 b h2 h3 => by
            have h4 := (own_lt ho2.out h2).2
            by_cases qt : t < cs'.length
            · rw [List.getElem_append_left qt] at h3
              have := (hI.out.ld.lt qt h3).1
              omega
            · rw [List.getElem_append_right (by omega), List.getElem_singleton] at h3
              injection h3 with h3
              have h3 : wr.heap.size = b := h3
              omega
          mv := fun t h1 b h2 h3 => by
            have h4 := (own_lt ho4 h2).2
            by_cases qt : t < cs'.length
            · rw [List.getElem_append_left qt] at h3
              have := (hI.out.ld.lt qt h3).1
              omega
            · rw [List.getElem_append_right (by omega), List.getElem_singleton] at h3
              injection h3 with h3
              have h3 : wr.heap.size = b := h3
              omega }
        have HK := Lib.hid (HIH.out (L ++ [[i]]) (ms ++ [mi]) _ _ _ best' bv' w4 (hI.out.al HB).obj hld (by rw [List.length_append, List.length_singleton]; omega) (fun ld hld => by
          rcases List.mem_append.1 hld with h | h
          · have := hls.out ld h; omega
          · rw [List.mem_singleton] at h; rw [h]; simp) (fun y hy => by
          rcases List.mem_append.1 hy with h | h
          · exact hms.out y h
          · rw [List.mem_singleton] at h; rw [h]; exact ⟨hif0, hif1⟩) ((hww.out.trans hI.out.vis.bel).trans (HB.mono (by omega))) (by simp))
        rw [hE3.out] at HK
        have hfin := Lib.hid (fun w5 hv => hI.out.last (w3 := w5) HB (L2 := L ++ [[i]]) (ms2 := ms ++ [mi]) (vo2 := .slice go2 (q + 1) co2) (vm2 := .slice gm2 (q + 1) cm2) (u := .slice (some ⟨wr.heap.size, 0, none⟩) 1 1) (fun b hb => by have := (own_lt ho2.out hb).2; omega) (fun b hb => by have := (own_lt ho4 hb).2; omega) (fun b hb => by injection hb with hb; have hb : wr.heap.size = b := hb; omega) (best2 := RR) hv)
        clear hld ho2 ho2' ho4 hb4 HB HB2 HB4 hu hcs hqq hnm hI hR1 hR2 HCi hE3
        go_wp2_with fail
        refine HK.out.mono ?_
        rintro e w5 ⟨rfl, hv⟩
        have hF := Lib.hid (hfin.out w5 hv)
        clear hv HK hfin
        go_wp2_with fail
        go_end0
        exact ⟨rfl, hF.out⟩
end Go.Proofs.YtjlkbmaigcgnbaaDoor
