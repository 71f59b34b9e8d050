/- the reference's site: Do (checks and pours). -/
import Derived.Test.YtpocmijfkjjboaaGreatDoorSiT
set_option linter.unusedVariables false
namespace Go.Proofs.YtpocmijfkjjboaaGreatDoor
open Go.ChangeShapes Go.WideShapes Go.ChangeAt Go.RowKit

set_option maxRecDepth 100000 in
set_option maxHeartbeats 2000000 in
theorem rdo_3 (s : St) (hok : s.ok) (xd : Int) (xn : ByteArray) (hz : xn.size ≤ 60) (hlt : Hid (s.kept.length ≤ 999)) (hgv : givenS s ⟨xd, 3, xn⟩ = 0) (g : Nat) (p : RV) (R : Int × St) (w : World) (hs : RefW w g s p) (hR : Hid (if (checkS s xn).1 ≠ 0 then R = ((checkS s xn).1, s) else R = (0, withK (checkS s xn).2 ⟨xd, 3, xn⟩))) :
    Calls Tryz.prog 28 #[.pointer (some ⟨g, 0, none⟩), .agg #[.int .i64 xd, .int .i64 3, .string xn]] w fun e w' => e = .returned (.int .i64 R.1) ∧ RDone w w' g R.2 p := by
  obtain ⟨i0, hi, hz0, hz1, hz2⟩ := info_parts infoEnt
  have hs0 := Lib.hid hs
  have HG := Lib.hid (fun u (hb : Below w.heap.size w u) => given_any s hok xd 3 xn hz g p u (hs.bel hb))
  rw [hgv] at HG
  clear hs
  go_enter Tryz.func28, Tryz.ntmps28
  go_wp2_with fail
  refine (HG.out _ (by repeat (first | with_reducible assumption | with_reducible exact Below.refl _ _ | with_reducible refine below_al ?_ _ | with_reducible refine below_drew ?_ | with_reducible refine below_drewN ?_ _ | with_reducible refine below_set ?_ (by dsimp only; omega) _))).mono ?_
  rintro e w1 ⟨rfl, hb1⟩
  have kx : At w1 w.heap.size 39 #[.int .i64 xd, .int .i64 3, .string xn] := At.bel (At.new' rfl) hb1
  have HB : Below w.heap.size w w1 := below_then (below_al (Below.refl _ _) _) hb1
  clear hb1 HG
  obtain ⟨x0, x1, x2⟩ := kx.three
  obtain ⟨j0, hj, hj0, hj1, hj2⟩ := info_parts infoStr
  have hs1 := Lib.hid (hs0.out.bel HB)
  have HF := Lib.hid (reffind_any s hok xn g p w1 hs1.out)
  unfold checkS at hR
  cases hin : inB xn s.open_
  rotate_left
  · rw [hin] at hR
    have hE : Hid (R = (15, s)) := Lib.hid (by have := hR.out; simpa using this)
    have hk := ix_mem (inB_iff.1 hin)
    have hx : ixI s.open_ xn = (ix s.open_ xn : Int) := by unfold ixI; rw [if_pos hk]
    rw [hx] at HF
    clear hx hk hR hin
    go_wp2_with fail
    refine (HF.out).mono ?_
    rintro e w' ⟨rfl, rfl⟩
    go_wp2_with fail
    go_ret
    exact ⟨by rw [hE.out]; rfl, by rw [hE.out]; exact RDone.same hs0.out HB⟩
  · rw [hin] at hR
    have hE0 : Hid (R = (0, withK { s with open_ := s.open_ ++ [xn] } ⟨xd, 3, xn⟩)) := Lib.hid (by have := hR.out; simpa [withK] using this)
    have hx : ixI s.open_ xn = -1 := by
      unfold ixI
      rw [if_neg]
      intro h
      unfold ix at h
      rw [List.findIdx_lt_length] at h
      obtain ⟨y, hy, hy2⟩ := h
      have : xn ∈ s.open_ := of_decide_eq_true hy2 ▸ hy
      rw [inB_iff.2 this] at hin
      cases hin
    rw [hx] at HF
    obtain ⟨ao, cap, hvo, hlc, -, -, -⟩ := hs1.out.opn.view encS_len
    have hn1 : s.open_.length ≤ 1000 := by have := hok.openN; have := hok.keptN; omega
    have hS3 : Hid (∀ (w5 : World) (v' : Value), w5.ownsRow 0 9 1 v' (s.open_.length + 1) (s.open_.flatMap encS ++ [.string xn]) → w1.grownBy w5 p.vc.ownBlock → (v'.ownBlock = p.vc.ownBlock ∨ v'.ownBlock = some (w1.heap.size + 1)) → At w5 g 66 #[p.vl, p.va, .string s.member, p.vc, p.vk, .bool s.poured] ∧ RDone w1 (w5.setCell ⟨g, 3, none⟩ v') g { s with open_ := s.open_ ++ [xn] } p) := Lib.hid (fun w5 v' ho5 hg5 hloc => hs1.out.putC (N := w1.heap.size + 1) (s.open_ ++ [xn]) (by rw [List.length_append, List.flatMap_append]; exact ho5) hg5 (hloc.imp id .inl) (Nat.le_succ _))
    have ho3 : Hid (w1.ownsRow 0 9 1 (.slice ao s.open_.length cap) s.open_.length (s.open_.flatMap encS)) := Lib.hid (by rw [← hvo]; exact hs1.out.opn)
    rw [hvo] at hS3
    have z3 : w1.cell? ⟨g, 3, none⟩ = some (.slice ao s.open_.length cap) := by
      have := hs1.out.own.c 3
      rw [hvo] at this
      exact this
    obtain ⟨n, hn⟩ : ∃ n, s.open_.length = n := ⟨_, rfl⟩
    rw [hn] at hn1 hlc z3 ho3 hS3
    have Lg := hs1.out.own.lt
    clear hx hR hin hvo hn
    go_wp2_with fail
    refine (HF.out).mono ?_
    rintro e w' ⟨rfl, rfl⟩
    go_upto_region 23 with fail
    go_region_law (refine step_append_at _ rfl (.tmp 77) (.tmp 80) 48 rfl 0 9 j0 (.string ⟨#[]⟩) 1 16 Tryz.underlying48 hj hj0 hj1 hj2 rfl (by decide) (.slice ao n cap) n (s.open_.flatMap encS) (by simp [Act.eval]) (by first | exact World.ownsRow.alloc (World.ownsRow.drew ho3.out) _ | exact World.ownsRow.drew (World.ownsRow.alloc ho3.out _)) ⟨w1.heap.size, 0, none⟩ 1 1 [.string xn] (by simp [Act.eval]) rfl (by first | exact cell_one_new _ _ _ | exact cell_one_new w1 _ _) (by intro u hu; simp at hu; subst hu; rfl) (by unfold maxLen; omega) (by omega) (by simp) ?_; intro g5 c5 w5 ho5 hg5 hloc; have hg6 := grown_after (w := w1) (by first | exact below_drew (below_al (Below.refl _ _) _) | exact below_al (below_drew (Below.refl _ _)) _) hg5; obtain ⟨hat5, hd⟩ := hS3.out w5 _ ho5 hg6 (by simpa using hloc); have f3 := hat5.f 3; have y3 : w5.cell? ⟨g, 3, none⟩ = some (.slice ao n cap) := hat5.c 3; clear ho5 hg5 hg6 hat5 hloc)
    all_goals
      go_upto_region 29 with fail
      clear x0 x1 x2 z3 f3 y3 hS3 ho3
      revert hd
      generalize World.setCell _ _ _ = w2
      intro hd
      obtain ⟨s1, hs1e⟩ : ∃ s1 : St, { s with open_ := s.open_ ++ [xn] } = s1 := ⟨_, rfl⟩
      have hk1 : s1.kept = s.kept := by rw [← hs1e]
      rw [hs1e] at hd hE0
      have hE : Hid (R = (0, withK s1 ⟨xd, 3, xn⟩)) := Lib.hid hE0.out
      obtain ⟨p1, hs1, hf1, hm1⟩ := hd
      have kx2 : At w2 w.heap.size 39 #[.int .i64 xd, .int .i64 3, .string xn] := (hf1.block _ kx.lt (fun h => by have := hs0.out.lt h; omega)).trans kx
      obtain ⟨x0, x1, x2⟩ := kx2.three
      obtain ⟨a1, cap1, hve1, hl1, -, -, -⟩ := hs1.ents.view encE_len
      obtain ⟨nn, hnn⟩ : ∃ nn, s1.kept.length = nn := ⟨_, rfl⟩
      have hnn1 : nn ≤ 999 := by rw [← hnn, hk1]; exact hlt.out
      have ho : Hid (w2.ownsRow 0 39 3 (.slice a1 nn cap1) nn (s1.kept.flatMap encE)) := Lib.hid (by rw [← hnn, ← hve1]; exact hs1.ents)
      rw [hnn] at hve1 hl1
      have z4 : w2.cell? ⟨g, 4, none⟩ = some (.slice a1 nn cap1) := by
        have := hs1.own.c 4
        rw [hve1] at this
        exact this
      have Lg := hs1.own.lt
      have hS : Hid (∀ (w5 : World) (v' : Value), w5.ownsRow 0 39 3 v' (nn + 1) (s1.kept.flatMap encE ++ [.int .i64 xd, .int .i64 3, .string xn]) → w2.grownBy w5 (Value.slice a1 nn cap1).ownBlock → (v'.ownBlock = (Value.slice a1 nn cap1).ownBlock ∨ v'.ownBlock = some (w2.heap.size + 1)) → At w5 g 66 #[p1.vl, p1.va, .string s1.member, p1.vc, p1.vk, .bool s1.poured] ∧ RDone w (w5.setCell ⟨g, 4, none⟩ v') g (withK s1 ⟨xd, 3, xn⟩) p) := Lib.hid (fun w5 v' ho5 hg5 hloc => by
        rw [← hve1] at hg5 hloc
        obtain ⟨q1, q2⟩ := hs1.pushK ⟨xd, 3, xn⟩ (by rw [hnn]; exact ho5) hg5 hloc (Nat.le_succ _)
        exact ⟨q1, RDone.then ((Frm.of_below HB).trans hf1 (fun x h => .inl h)) (fun b hb => (hm1 b hb).imp id (Nat.le_trans HB.size)) q2⟩)
      clear hve1 hnn hs1 hs1e hk1 hf1 hm1 hE0
      go_upto_region 29 with fail
      go_region_law (refine step_append_at _ rfl (.tmp 115) (.tmp 117) 35 rfl 0 39 i0 (.agg #[.int .i64 0, .int .i64 0, .string ⟨#[]⟩]) 3 32 Tryz.underlying35 hi hz0 hz1 hz2 rfl (by decide) (.slice a1 nn cap1) nn (s1.kept.flatMap encE) (by simp [Act.eval]) (by first | exact World.ownsRow.alloc (World.ownsRow.drew ho.out) _ | exact World.ownsRow.drew (World.ownsRow.alloc ho.out _)) ⟨w2.heap.size, 0, none⟩ 1 1 [.int .i64 xd, .int .i64 3, .string xn] (by simp [Act.eval]) rfl (three_new (by first | exact At.new _ _ _ | exact At.drw (At.new _ _ _))) (by intro u hu; simp at hu; rcases hu with rfl | rfl | rfl <;> rfl) (by unfold maxLen; omega) (by omega) (by simp) ?_; intro g5 c5 w5 ho5 hg5 hloc; have hg6 := grown_after (w := w2) (by first | exact below_drew (below_al (Below.refl _ _) _) | exact below_al (below_drew (Below.refl _ _)) _) hg5; obtain ⟨hat5, hS5⟩ := hS.out w5 _ ho5 hg6 (by simpa using hloc); have f4 := hat5.f 4; have y4 : w5.cell? ⟨g, 4, none⟩ = some p1.vk := hat5.c 4; replace hS5 := Lib.hid hS5; clear ho5 hg5 hg6 hat5 hloc)
      all_goals (go_wp2_with fail; go_ret; exact ⟨by rw [hE.out]; rfl, by rw [hE.out]; exact hS5.out⟩)

set_option maxRecDepth 100000 in
set_option maxHeartbeats 2000000 in
theorem rdo_5 (s : St) (hok : s.ok) (xd xk : Int) (xn : ByteArray) (hz : xn.size ≤ 60) (hk : ¬ xk = 1 ∧ ¬ xk = 2 ∧ ¬ xk = 6 ∧ ¬ xk = 3 ∧ ¬ xk = 4) (hlt : Hid (s.kept.length ≤ 999)) (hgv : givenS s ⟨xd, xk, xn⟩ = 0) (g : Nat) (p : RV) (R : Int × St) (w : World) (hs : RefW w g s p) (hR : Hid (if (pourS s xn).1 ≠ 0 then R = ((pourS s xn).1, s) else R = (0, withK (pourS s xn).2 ⟨xd, xk, xn⟩))) :
    Calls Tryz.prog 28 #[.pointer (some ⟨g, 0, none⟩), .agg #[.int .i64 xd, .int .i64 xk, .string xn]] w fun e w' => e = .returned (.int .i64 R.1) ∧ RDone w w' g R.2 p := by
  obtain ⟨n1, n2, n6, n3, n4⟩ := hk
  have e1 : (xk == 1) = false := by simpa using n1
  have e2 : (xk == 2) = false := by simpa using n2
  have e6 : (xk == 6) = false := by simpa using n6
  have e3 : (xk == 3) = false := by simpa using n3
  have e4 : (xk == 4) = false := by simpa using n4
  clear n1 n2 n3 n4 n6
  obtain ⟨i0, hi, hz0, hz1, hz2⟩ := info_parts infoEnt
  have hs0 := Lib.hid hs
  have HG := Lib.hid (fun u (hb : Below w.heap.size w u) => given_any s hok xd xk xn hz g p u (hs.bel hb))
  rw [hgv] at HG
  clear hs
  go_enter Tryz.func28, Tryz.ntmps28
  go_wp2_with fail
  refine (HG.out _ (by repeat (first | with_reducible assumption | with_reducible exact Below.refl _ _ | with_reducible refine below_al ?_ _ | with_reducible refine below_drew ?_ | with_reducible refine below_drewN ?_ _ | with_reducible refine below_set ?_ (by dsimp only; omega) _))).mono ?_
  rintro e w1 ⟨rfl, hb1⟩
  have kx : At w1 w.heap.size 39 #[.int .i64 xd, .int .i64 xk, .string xn] := At.bel (At.new' rfl) hb1
  have HB : Below w.heap.size w w1 := below_then (below_al (Below.refl _ _) _) hb1
  clear hb1 HG
  obtain ⟨x0, x1, x2⟩ := kx.three
  have z2 : w1.cell? ⟨g, 2, none⟩ = some (.string s.member) := (hs0.out.bel HB).own.c 2
  have K2 := cell_regrown z2
  have KX2 := cell_regrown x2
  have HRd := Lib.hid (fun u (hb : Below w.heap.size w u) => refready_any s hok g p u (hs0.out.bel hb))
  obtain ⟨rd, hrd⟩ : ∃ rd, readyS s = rd := ⟨_, rfl⟩
  rw [hrd] at HRd
  replace hrd := Lib.hid hrd
  go_upto_region 5 with fail
  by_cases he : xn = s.member
  · have es := str_eq he
    have hp : pourS s xn = if rd = false then (24, s) else (0, { s with poured := true }) := by unfold pourS; rw [if_neg (by simpa using he), hrd.out]
    rw [hp] at hR
    clear he hp
    refine wp_region_quiet_below (by kernel_rfl) (by kernel_rfl) ?_
    repeat (go_big_quiet_step (fail))
    refine wpQuiet_nil ?_
    intro v hb'
    have hb := below_of_regrown hb'
    replace kx := At.bel kx hb
    replace HB := below_then HB hb
    clear hb' hb K2 KX2 x0 x1 x2 z2
    go_wp2_with fail
    refine (HRd.out _ HB).mono ?_
    rintro e w2 ⟨rfl, hb2⟩
    replace kx := At.bel kx hb2
    replace HB := below_then HB hb2
    clear hb2 HRd es
    cases rd
    · have hE : Hid (R = (24, s)) := Lib.hid (by have := hR.out; simpa using this)
      clear hR
      go_wp2_with fail
      go_ret
      exact ⟨by rw [hE.out]; rfl, by rw [hE.out]; exact RDone.same hs0.out HB⟩
    · have hE0 : Hid (R = (0, withK { s with poured := true } ⟨xd, xk, xn⟩)) := Lib.hid (by have := hR.out; simpa [withK] using this)
      have hs1 := Lib.hid (hs0.out.bel HB)
      have z5 : w2.cell? ⟨g, 5, none⟩ = some (.bool s.poured) := hs1.out.own.c 5
      have f5 := hs1.out.own.f 5
      have hd : RDone w2 (w2.setCell ⟨g, 5, none⟩ (.bool true)) g { s with poured := true } p := by
        have d := RDjs.iff.1 hs1.out.sep
        have kp : ∀ o : Option Nat, Dj (some g) o → ∀ x, o = some x → (w2.setCell ⟨g, 5, none⟩ (.bool true)).heap[x]? = w2.heap[x]? := fun o hd x e => Below.heap_setCell _ _ _ _ (fun hx => hd x (by rw [hx]) e)
        exact hs1.out.remake _ p w2.heap.size (Nat.le_refl _) (by simpa using hs1.out.own.put 5 (.bool true)) rfl rfl (kp _ d.g1) (hs1.out.wher.keep (kp _ d.g2)) rfl (hs1.out.opn.keep (kp _ d.g3)) (.inl rfl) (hs1.out.ents.keep (kp _ d.g4)) (.inl rfl) (.inl rfl) (Frm.of_set (by simp [RV.fp]) _)
      clear hR
      go_upto_region 29 with fail
      clear z5 f5
      revert hd
      generalize World.setCell _ _ _ = w2
      intro hd
      obtain ⟨s1, hs1e⟩ : ∃ s1 : St, { s with poured := true } = s1 := ⟨_, rfl⟩
      have hk1 : s1.kept = s.kept := by rw [← hs1e]
      rw [hs1e] at hd hE0
      have hE : Hid (R = (0, withK s1 ⟨xd, xk, xn⟩)) := Lib.hid hE0.out
      obtain ⟨p1, hs1, hf1, hm1⟩ := hd
      have kx2 : At w2 w.heap.size 39 #[.int .i64 xd, .int .i64 xk, .string xn] := (hf1.block _ kx.lt (fun h => by have := hs0.out.lt h; omega)).trans kx
      obtain ⟨x0, x1, x2⟩ := kx2.three
      obtain ⟨a1, cap1, hve1, hl1, -, -, -⟩ := hs1.ents.view encE_len
      obtain ⟨nn, hnn⟩ : ∃ nn, s1.kept.length = nn := ⟨_, rfl⟩
      have hnn1 : nn ≤ 999 := by rw [← hnn, hk1]; exact hlt.out
      have ho : Hid (w2.ownsRow 0 39 3 (.slice a1 nn cap1) nn (s1.kept.flatMap encE)) := Lib.hid (by rw [← hnn, ← hve1]; exact hs1.ents)
      rw [hnn] at hve1 hl1
      have z4 : w2.cell? ⟨g, 4, none⟩ = some (.slice a1 nn cap1) := by
        have := hs1.own.c 4
        rw [hve1] at this
        exact this
      have Lg := hs1.own.lt
      have hS : Hid (∀ (w5 : World) (v' : Value), w5.ownsRow 0 39 3 v' (nn + 1) (s1.kept.flatMap encE ++ [.int .i64 xd, .int .i64 xk, .string xn]) → w2.grownBy w5 (Value.slice a1 nn cap1).ownBlock → (v'.ownBlock = (Value.slice a1 nn cap1).ownBlock ∨ v'.ownBlock = some (w2.heap.size + 1)) → At w5 g 66 #[p1.vl, p1.va, .string s1.member, p1.vc, p1.vk, .bool s1.poured] ∧ RDone w (w5.setCell ⟨g, 4, none⟩ v') g (withK s1 ⟨xd, xk, xn⟩) p) := Lib.hid (fun w5 v' ho5 hg5 hloc => by
        rw [← hve1] at hg5 hloc
        obtain ⟨q1, q2⟩ := hs1.pushK ⟨xd, xk, xn⟩ (by rw [hnn]; exact ho5) hg5 hloc (Nat.le_succ _)
        exact ⟨q1, RDone.then ((Frm.of_below HB).trans hf1 (fun x h => .inl h)) (fun b hb => (hm1 b hb).imp id (Nat.le_trans HB.size)) q2⟩)
      clear hve1 hnn hs1 hs1e hk1 hf1 hm1 hE0
      go_upto_region 29 with fail
      go_region_law (refine step_append_at _ rfl (.tmp 115) (.tmp 117) 35 rfl 0 39 i0 (.agg #[.int .i64 0, .int .i64 0, .string ⟨#[]⟩]) 3 32 Tryz.underlying35 hi hz0 hz1 hz2 rfl (by decide) (.slice a1 nn cap1) nn (s1.kept.flatMap encE) (by simp [Act.eval]) (by first | exact World.ownsRow.alloc (World.ownsRow.drew ho.out) _ | exact World.ownsRow.drew (World.ownsRow.alloc ho.out _)) ⟨w2.heap.size, 0, none⟩ 1 1 [.int .i64 xd, .int .i64 xk, .string xn] (by simp [Act.eval]) rfl (three_new (by first | exact At.new _ _ _ | exact At.drw (At.new _ _ _))) (by intro u hu; simp at hu; rcases hu with rfl | rfl | rfl <;> rfl) (by unfold maxLen; omega) (by omega) (by simp) ?_; intro g5 c5 w5 ho5 hg5 hloc; have hg6 := grown_after (w := w2) (by first | exact below_drew (below_al (Below.refl _ _) _) | exact below_al (below_drew (Below.refl _ _)) _) hg5; obtain ⟨hat5, hS5⟩ := hS.out w5 _ ho5 hg6 (by simpa using hloc); have f4 := hat5.f 4; have y4 : w5.cell? ⟨g, 4, none⟩ = some p1.vk := hat5.c 4; replace hS5 := Lib.hid hS5; clear ho5 hg5 hg6 hat5 hloc)
      all_goals (go_wp2_with fail; go_ret; exact ⟨by rw [hE.out]; rfl, by rw [hE.out]; exact hS5.out⟩)
  · have es := str_ne he
    have hp : pourS s xn = (9, s) := by unfold pourS; rw [if_pos he]
    rw [hp] at hR
    have hE : Hid (R = (9, s)) := Lib.hid (by have := hR.out; simpa using this)
    clear hR he hp
    refine wp_region_quiet_below (by kernel_rfl) (by kernel_rfl) ?_
    repeat (go_big_quiet_step (fail))
    refine wpQuiet_nil ?_
    intro v hb'
    have hb := below_of_regrown hb'
    replace kx := At.bel kx hb
    replace HB := below_then HB hb
    clear hb' hb K2 KX2 x0 x1 x2 z2
    go_wp2_with fail
    go_ret
    exact ⟨by rw [hE.out]; rfl, by rw [hE.out]; exact RDone.same hs0.out HB⟩

end Go.Proofs.YtpocmijfkjjboaaGreatDoor
