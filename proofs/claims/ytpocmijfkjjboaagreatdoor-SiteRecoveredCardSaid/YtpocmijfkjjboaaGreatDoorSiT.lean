/- the reference's site: Do. -/
import Derived.Test.YtpocmijfkjjboaaGreatDoorSiS
set_option linter.unusedVariables false
namespace Go.Proofs.YtpocmijfkjjboaaGreatDoor
open Go.ChangeShapes Go.WideShapes Go.ChangeAt Go.RowKit

def withK (s : St) (x : Ent) : St := { s with kept := s.kept ++ [x] }
theorem regrown_above {P : Program} {f : FuncId} {args : Array Value} {w : World} {d : Nat} {os : Array Obj} {v : Value}
    (h : ∀ W : World, Below w.heap.size w W → Calls P f args W fun e w' => e = .returned v ∧ Below W.heap.size W w') : Calls P f args (Go.Sort.grow (redrawn w d) os) fun e w'' => e = .returned v ∧ ∃ p : Regrown, w'' = Go.Sort.grow (redrawn w p.d) p.os :=
  Calls.regrown_of (h _ (below_regrown w d os))

set_option maxRecDepth 100000 in
set_option maxHeartbeats 2000000 in
theorem rdo_1 (s : St) (hok : s.ok) (xd : Int) (xn : ByteArray) (hz : xn.size ≤ 60) (hlt : Hid (s.kept.length ≤ 999)) (hgv : givenS s ⟨xd, 1, xn⟩ = 0) (g : Nat) (p : RV) (R : Int × St) (w : World) (hs : RefW w g s p) (hR : Hid (if (moveS s xn 0 1).1 ≠ 0 then R = ((moveS s xn 0 1).1, s) else R = (0, { (moveS s xn 0 1).2 with kept := (moveS s xn 0 1).2.kept ++ [⟨xd, 1, xn⟩] }))) :
    Calls Tryz.prog 28 #[.pointer (some ⟨g, 0, none⟩), .agg #[.int .i64 xd, .int .i64 1, .string xn]] w fun e w' => e = .returned (.int .i64 R.1) ∧ RDone w w' g R.2 p := by
  obtain ⟨i0, hi, hz0, hz1, hz2⟩ := info_parts infoEnt
  have hs0 := Lib.hid hs
  have HG := Lib.hid (fun u (hb : Below w.heap.size w u) => given_any s hok xd 1 xn hz g p u (hs.bel hb))
  rw [hgv] at HG
  clear hs
  go_enter Tryz.func28, Tryz.ntmps28
  go_wp2_with fail
  refine (HG.out _ (by repeat (first | with_reducible assumption | with_reducible exact Below.refl _ _ | with_reducible refine below_al ?_ _ | with_reducible refine below_drew ?_ | with_reducible refine below_drewN ?_ _ | with_reducible refine below_set ?_ (by dsimp only; omega) _))).mono ?_
  rintro e w1 ⟨rfl, hb1⟩
  have kx : At w1 w.heap.size 39 #[.int .i64 xd, .int .i64 1, .string xn] := At.bel (At.new' rfl) hb1
  have HB : Below w.heap.size w w1 := below_then (below_al (Below.refl _ _) _) hb1
  clear hb1 HG
  obtain ⟨x0, x1, x2⟩ := kx.three
  obtain ⟨bl, hbl, hrow⟩ := hs0.out.tags
  obtain ⟨ao, cap, hvl, hlc, hcc, -, -⟩ := hrow.view encB_len
  have hbn : bl.length = s.tags.length := by rw [← hbl, List.length_map]
  have hbn1 : bl.length ≤ 1000000 := by have := hok.tagsN; omega
  clear hbn
  have HF : Hid (∀ W, Below w1.heap.size w1 W → Calls Tryz.prog 50 #[.slice ao bl.length cap, .string xn] W fun e w' => e = .returned (.int .i64 (ixI s.tags xn)) ∧ Below W.heap.size W w') := Lib.hid (fun W hW => by
    have hrw := ((show Row W 73 4 encB (.slice ao bl.length cap) bl from hvl ▸ hrow.keep fun x e => (below_then HB hW).block x (hrow.lt e)).at encB_len)
    have := find36_any bl xn ao cap hlc hbn1 _ W (Lib.hid hrw)
    rw [hbl] at this
    exact this.mono fun e w' h => ⟨h.1, h.2 ▸ Below.refl _ _⟩)
  have z0 : w1.cell? ⟨g, 0, none⟩ = some (.slice ao bl.length cap) := by
    have := (hs0.out.bel HB).own.c 0
    rw [hvl] at this
    exact this
  generalize bl.length = nb at *
  obtain ⟨i, hi'⟩ : ∃ i, ixI s.tags xn = i := ⟨_, rfl⟩
  rw [hi'] at HF
  clear hrow hvl hlc hcc
  have K0 := cell_regrown z0
  have KX2 := cell_regrown x2
  go_upto_region 13 with fail
  refine wp_region_quiet_below (by kernel_rfl) (by kernel_rfl) ?_
  repeat (go_big_quiet_step ((first | with_reducible exact regrown_above HF.out)))
  refine wpQuiet_nil ?_
  intro v hb'
  have hb := below_of_regrown hb'
  replace kx := At.bel kx hb
  replace HB := below_then HB hb
  clear hb' hb K0 KX2 x0 x1 x2 z0 HF hbl
  obtain ⟨x0, x1, x2⟩ := kx.three
  unfold moveS at hR
  cases hin : inB xn s.tags
  · rw [hin] at hR
    have hE : Hid (R = (9, s)) := Lib.hid (by have := hR.out; simpa using this)
    have hx : i = -1 := by
      rw [← hi']
      unfold ixI
      rw [if_neg]
      intro h
      unfold ix at h
      rw [List.findIdx_lt_length] at h
      obtain ⟨y, hy, hy2⟩ := h
      have : xn ∈ s.tags := of_decide_eq_true hy2 ▸ hy
      rw [inB_iff.2 this] at hin
      cases hin
    subst hx
    clear hi' hin hR
    go_wp2_with fail
    go_ret
    exact ⟨by rw [hE.out]; rfl, by rw [hE.out]; exact RDone.same hs0.out HB⟩
  · rw [hin] at hR
    obtain ⟨k, hk⟩ : ∃ k, ix s.tags xn = k := ⟨_, rfl⟩
    have hkt : k < s.tags.length := by rw [← hk]; exact ix_mem (inB_iff.1 hin)
    have hkl : k < s.at_.length := by rw [hok.len]; exact hkt
    have hx : i = (k : Int) := by rw [← hi']; unfold ixI; rw [hk, if_pos hkt]
    subst hx
    rw [hk] at hR
    have hgd : s.at_.getD k 0 = s.at_[k] := by simp [List.getD, hkl]
    rw [hgd] at hR
    have hsv := Lib.hid (hs0.out.bel HB)
    obtain ⟨gw, cw, hvw, hlc, -, hfz⟩ := hsv.out.wher.blk (by omega)
    have z1 : v.cell? ⟨g, 1, none⟩ = some (.slice (some ⟨gw, 0, none⟩) s.at_.length cw) := by
      have := hsv.out.own.c 1
      rw [hvw] at this
      exact this
    obtain ⟨b', off', e', d0, hltb⟩ := ((show Row v _ 1 encN (.slice (some ⟨gw, 0, none⟩) s.at_.length cw) s.at_ from hvw ▸ hsv.out.wher).at encN_len).one (f := fun n : Nat => Value.int .i64 (n : Int)) k hkl
    simp only [Option.some.injEq, Addr.mk.injEq, and_true] at e'
    obtain ⟨rfl, rfl⟩ := e'
    have fz := hfz k
    rw [Nat.zero_add] at d0
    obtain ⟨y, hy⟩ : ∃ y, s.at_[k] = y := ⟨_, rfl⟩
    rw [hy] at d0 hR
    have hn1 : s.at_.length ≤ 1000 := by have := hok.len; have := hok.tagsN; omega
    obtain ⟨n, hn⟩ : ∃ n, s.at_.length = n := ⟨_, rfl⟩
    rw [hn] at z1 hn1 hlc
    have hkn : k < n := by omega
    have hkl' := Lib.hid hkl
    have hvw' := Lib.hid hvw
    have HMv := Lib.hid (fun u => moves_any 1 (by decide) u)
    clear hfz hvw hkl hgd hy hk hi' hin hkt
    by_cases hya : y = 0
    · subst hya
      have hE0 : Hid (R = (0, withK { s with at_ := s.at_.set k 1 } ⟨xd, 1, xn⟩)) := Lib.hid (by have := hR.out; simpa [withK] using this)
      have hd : RDone v (v.setCell ⟨gw, k, none⟩ (.int .i64 1)) g { s with at_ := s.at_.set k 1 } p := by
        have d := RDjs.iff.1 hsv.out.sep
        have hbk : p.va.ownBlock = some gw := by rw [hvw'.out]; rfl
        have kp : ∀ o : Option Nat, Dj o p.va.ownBlock → ∀ x, o = some x → (v.setCell ⟨gw, k, none⟩ (.int .i64 1)).heap[x]? = v.heap[x]? := fun o hd x e => Below.heap_setCell _ _ _ _ (fun hx => hd x e (by rw [hbk]; rw [hx]))
        refine hsv.out.remake _ p v.heap.size (Nat.le_refl _) ((kp _ d.g2 g rfl).trans hsv.out.own) rfl rfl (kp _ d.l2) ?_ rfl (hsv.out.opn.keep (kp _ d.a3.symm)) (.inl rfl) (hsv.out.ents.keep (kp _ d.a4.symm)) (.inl rfl) (.inl rfl) ?_
        · have := (show Row v 3 1 encN (.slice (some ⟨gw, 0, none⟩) s.at_.length cw) s.at_ from hvw'.out ▸ hsv.out.wher).set k 1 hkl'.out
          rw [← hvw'.out] at this
          exact this
        · exact Frm.of_set (by simp [RV.fp, hbk]) _
      clear hR
      go_wp2_with fail
      refine (HMv.out _).mono ?_
      rintro e w' ⟨rfl, rfl⟩
      go_upto_region 29 with fail
      clear x0 x1 x2 z1 d0 fz
      revert hd
      generalize World.setCell _ _ _ = w2
      intro hd
      obtain ⟨s1, hs1e⟩ : ∃ s1 : St, { s with at_ := s.at_.set k 1 } = s1 := ⟨_, rfl⟩
      have hk1 : s1.kept = s.kept := by rw [← hs1e]
      rw [hs1e] at hd hE0
      have hE : Hid (R = (0, withK s1 ⟨xd, 1, xn⟩)) := Lib.hid hE0.out
      obtain ⟨p1, hs1, hf1, hm1⟩ := hd
      have kx2 : At w2 w.heap.size 39 #[.int .i64 xd, .int .i64 1, .string xn] := (hf1.block _ kx.lt (fun h => by have := hs0.out.lt h; omega)).trans kx
      obtain ⟨x0, x1, x2⟩ := kx2.three
      obtain ⟨a1, cap1, hve1, hl1, -, -, -⟩ := hs1.ents.view encE_len
      obtain ⟨nn, hnn⟩ : ∃ nn, s1.kept.length = nn := ⟨_, rfl⟩
      have hnn1 : nn ≤ 999 := by rw [← hnn, hk1]; exact hlt.out
      have ho : Hid (w2.ownsRow 0 39 3 (.slice a1 nn cap1) nn (s1.kept.flatMap encE)) := Lib.hid (by rw [← hnn, ← hve1]; exact hs1.ents)
      rw [hnn] at hve1 hl1
      have z4 : w2.cell? ⟨g, 4, none⟩ = some (.slice a1 nn cap1) := by
        have := hs1.own.c 4
        rw [hve1] at this
        exact this
      have Lg := hs1.own.lt
      have hS : Hid (∀ (w5 : World) (v' : Value), w5.ownsRow 0 39 3 v' (nn + 1) (s1.kept.flatMap encE ++ [.int .i64 xd, .int .i64 1, .string xn]) → w2.grownBy w5 (Value.slice a1 nn cap1).ownBlock → (v'.ownBlock = (Value.slice a1 nn cap1).ownBlock ∨ v'.ownBlock = some (w2.heap.size + 1)) → At w5 g 66 #[p1.vl, p1.va, .string s1.member, p1.vc, p1.vk, .bool s1.poured] ∧ RDone w (w5.setCell ⟨g, 4, none⟩ v') g (withK s1 ⟨xd, 1, xn⟩) p) := Lib.hid (fun w5 v' ho5 hg5 hloc => by
        rw [← hve1] at hg5 hloc
        obtain ⟨q1, q2⟩ := hs1.pushK ⟨xd, 1, xn⟩ (by rw [hnn]; exact ho5) hg5 hloc (Nat.le_succ _)
        exact ⟨q1, RDone.then ((Frm.of_below HB).trans hf1 (fun x h => .inl h)) (fun b hb => (hm1 b hb).imp id (Nat.le_trans HB.size)) q2⟩)
      clear hve1 hnn hs1 hs1e hk1 hf1 hm1 hE0
      go_upto_region 29 with fail
      go_region_law (refine step_append_at _ rfl (.tmp 115) (.tmp 117) 35 rfl 0 39 i0 (.agg #[.int .i64 0, .int .i64 0, .string ⟨#[]⟩]) 3 32 Tryz.underlying35 hi hz0 hz1 hz2 rfl (by decide) (.slice a1 nn cap1) nn (s1.kept.flatMap encE) (by simp [Act.eval]) (by first | exact World.ownsRow.alloc (World.ownsRow.drew ho.out) _ | exact World.ownsRow.drew (World.ownsRow.alloc ho.out _)) ⟨w2.heap.size, 0, none⟩ 1 1 [.int .i64 xd, .int .i64 1, .string xn] (by simp [Act.eval]) rfl (three_new (by first | exact At.new _ _ _ | exact At.drw (At.new _ _ _))) (by intro u hu; simp at hu; rcases hu with rfl | rfl | rfl <;> rfl) (by unfold maxLen; omega) (by omega) (by simp) ?_; intro g5 c5 w5 ho5 hg5 hloc; have hg6 := grown_after (w := w2) (by first | exact below_drew (below_al (Below.refl _ _) _) | exact below_al (below_drew (Below.refl _ _)) _) hg5; obtain ⟨hat5, hS5⟩ := hS.out w5 _ ho5 hg6 (by simpa using hloc); have f4 := hat5.f 4; have y4 : w5.cell? ⟨g, 4, none⟩ = some p1.vk := hat5.c 4; replace hS5 := Lib.hid hS5; clear ho5 hg5 hg6 hat5 hloc)
      all_goals (go_wp2_with fail; go_ret; exact ⟨by rw [hE.out]; rfl, by rw [hE.out]; exact hS5.out⟩)
    · have hE : Hid (R = (13, s)) := Lib.hid (by have := hR.out; simpa [hya] using this)
      have h3 : ((y : Int) != 0) = true := by simp; omega
      clear hR hya
      go_wp2_with fail
      refine (HMv.out _).mono ?_
      rintro e w' ⟨rfl, rfl⟩
      go_wp2_with fail
      go_ret
      exact ⟨by rw [hE.out]; rfl, by rw [hE.out]; exact RDone.same hs0.out HB⟩

set_option maxRecDepth 100000 in
set_option maxHeartbeats 2000000 in
theorem rdo_2 (s : St) (hok : s.ok) (xd : Int) (xn : ByteArray) (hz : xn.size ≤ 60) (hlt : Hid (s.kept.length ≤ 999)) (hgv : givenS s ⟨xd, 2, xn⟩ = 0) (g : Nat) (p : RV) (R : Int × St) (w : World) (hs : RefW w g s p) (hR : Hid (if (moveS s xn 1 2).1 ≠ 0 then R = ((moveS s xn 1 2).1, s) else R = (0, { (moveS s xn 1 2).2 with kept := (moveS s xn 1 2).2.kept ++ [⟨xd, 2, xn⟩] }))) :
    Calls Tryz.prog 28 #[.pointer (some ⟨g, 0, none⟩), .agg #[.int .i64 xd, .int .i64 2, .string xn]] w fun e w' => e = .returned (.int .i64 R.1) ∧ RDone w w' g R.2 p := by
  obtain ⟨i0, hi, hz0, hz1, hz2⟩ := info_parts infoEnt
  have hs0 := Lib.hid hs
  have HG := Lib.hid (fun u (hb : Below w.heap.size w u) => given_any s hok xd 2 xn hz g p u (hs.bel hb))
  rw [hgv] at HG
  clear hs
  go_enter Tryz.func28, Tryz.ntmps28
  go_wp2_with fail
  refine (HG.out _ (by repeat (first | with_reducible assumption | with_reducible exact Below.refl _ _ | with_reducible refine below_al ?_ _ | with_reducible refine below_drew ?_ | with_reducible refine below_drewN ?_ _ | with_reducible refine below_set ?_ (by dsimp only; omega) _))).mono ?_
  rintro e w1 ⟨rfl, hb1⟩
  have kx : At w1 w.heap.size 39 #[.int .i64 xd, .int .i64 2, .string xn] := At.bel (At.new' rfl) hb1
  have HB : Below w.heap.size w w1 := below_then (below_al (Below.refl _ _) _) hb1
  clear hb1 HG
  obtain ⟨x0, x1, x2⟩ := kx.three
  obtain ⟨bl, hbl, hrow⟩ := hs0.out.tags
  obtain ⟨ao, cap, hvl, hlc, hcc, -, -⟩ := hrow.view encB_len
  have hbn : bl.length = s.tags.length := by rw [← hbl, List.length_map]
  have hbn1 : bl.length ≤ 1000000 := by have := hok.tagsN; omega
  clear hbn
  have HF : Hid (∀ W, Below w1.heap.size w1 W → Calls Tryz.prog 50 #[.slice ao bl.length cap, .string xn] W fun e w' => e = .returned (.int .i64 (ixI s.tags xn)) ∧ Below W.heap.size W w') := Lib.hid (fun W hW => by
    have hrw := ((show Row W 73 4 encB (.slice ao bl.length cap) bl from hvl ▸ hrow.keep fun x e => (below_then HB hW).block x (hrow.lt e)).at encB_len)
    have := find36_any bl xn ao cap hlc hbn1 _ W (Lib.hid hrw)
    rw [hbl] at this
    exact this.mono fun e w' h => ⟨h.1, h.2 ▸ Below.refl _ _⟩)
  have z0 : w1.cell? ⟨g, 0, none⟩ = some (.slice ao bl.length cap) := by
    have := (hs0.out.bel HB).own.c 0
    rw [hvl] at this
    exact this
  generalize bl.length = nb at *
  obtain ⟨i, hi'⟩ : ∃ i, ixI s.tags xn = i := ⟨_, rfl⟩
  rw [hi'] at HF
  clear hrow hvl hlc hcc
  have K0 := cell_regrown z0
  have KX2 := cell_regrown x2
  go_upto_region 13 with fail
  refine wp_region_quiet_below (by kernel_rfl) (by kernel_rfl) ?_
  repeat (go_big_quiet_step ((first | with_reducible exact regrown_above HF.out)))
  refine wpQuiet_nil ?_
  intro v hb'
  have hb := below_of_regrown hb'
  replace kx := At.bel kx hb
  replace HB := below_then HB hb
  clear hb' hb K0 KX2 x0 x1 x2 z0 HF hbl
  obtain ⟨x0, x1, x2⟩ := kx.three
  unfold moveS at hR
  cases hin : inB xn s.tags
  · rw [hin] at hR
    have hE : Hid (R = (9, s)) := Lib.hid (by have := hR.out; simpa using this)
    have hx : i = -1 := by
      rw [← hi']
      unfold ixI
      rw [if_neg]
      intro h
      unfold ix at h
      rw [List.findIdx_lt_length] at h
      obtain ⟨y, hy, hy2⟩ := h
      have : xn ∈ s.tags := of_decide_eq_true hy2 ▸ hy
      rw [inB_iff.2 this] at hin
      cases hin
    subst hx
    clear hi' hin hR
    go_wp2_with fail
    go_ret
    exact ⟨by rw [hE.out]; rfl, by rw [hE.out]; exact RDone.same hs0.out HB⟩
  · rw [hin] at hR
    obtain ⟨k, hk⟩ : ∃ k, ix s.tags xn = k := ⟨_, rfl⟩
    have hkt : k < s.tags.length := by rw [← hk]; exact ix_mem (inB_iff.1 hin)
    have hkl : k < s.at_.length := by rw [hok.len]; exact hkt
    have hx : i = (k : Int) := by rw [← hi']; unfold ixI; rw [hk, if_pos hkt]
    subst hx
    rw [hk] at hR
    have hgd : s.at_.getD k 0 = s.at_[k] := by simp [List.getD, hkl]
    rw [hgd] at hR
    have hsv := Lib.hid (hs0.out.bel HB)
    obtain ⟨gw, cw, hvw, hlc, -, hfz⟩ := hsv.out.wher.blk (by omega)
    have z1 : v.cell? ⟨g, 1, none⟩ = some (.slice (some ⟨gw, 0, none⟩) s.at_.length cw) := by
      have := hsv.out.own.c 1
      rw [hvw] at this
      exact this
    obtain ⟨b', off', e', d0, hltb⟩ := ((show Row v _ 1 encN (.slice (some ⟨gw, 0, none⟩) s.at_.length cw) s.at_ from hvw ▸ hsv.out.wher).at encN_len).one (f := fun n : Nat => Value.int .i64 (n : Int)) k hkl
    simp only [Option.some.injEq, Addr.mk.injEq, and_true] at e'
    obtain ⟨rfl, rfl⟩ := e'
    have fz := hfz k
    rw [Nat.zero_add] at d0
    obtain ⟨y, hy⟩ : ∃ y, s.at_[k] = y := ⟨_, rfl⟩
    rw [hy] at d0 hR
    have hn1 : s.at_.length ≤ 1000 := by have := hok.len; have := hok.tagsN; omega
    obtain ⟨n, hn⟩ : ∃ n, s.at_.length = n := ⟨_, rfl⟩
    rw [hn] at z1 hn1 hlc
    have hkn : k < n := by omega
    have hkl' := Lib.hid hkl
    have hvw' := Lib.hid hvw
    have HMv := Lib.hid (fun u => moves_any 2 (by decide) u)
    clear hfz hvw hkl hgd hy hk hi' hin hkt
    by_cases hya : y = 1
    · subst hya
      have hE0 : Hid (R = (0, withK { s with at_ := s.at_.set k 2 } ⟨xd, 2, xn⟩)) := Lib.hid (by have := hR.out; simpa [withK] using this)
      have hd : RDone v (v.setCell ⟨gw, k, none⟩ (.int .i64 2)) g { s with at_ := s.at_.set k 2 } p := by
        have d := RDjs.iff.1 hsv.out.sep
        have hbk : p.va.ownBlock = some gw := by rw [hvw'.out]; rfl
        have kp : ∀ o : Option Nat, Dj o p.va.ownBlock → ∀ x, o = some x → (v.setCell ⟨gw, k, none⟩ (.int .i64 2)).heap[x]? = v.heap[x]? := fun o hd x e => Below.heap_setCell _ _ _ _ (fun hx => hd x e (by rw [hbk]; rw [hx]))
        refine hsv.out.remake _ p v.heap.size (Nat.le_refl _) ((kp _ d.g2 g rfl).trans hsv.out.own) rfl rfl (kp _ d.l2) ?_ rfl (hsv.out.opn.keep (kp _ d.a3.symm)) (.inl rfl) (hsv.out.ents.keep (kp _ d.a4.symm)) (.inl rfl) (.inl rfl) ?_
        · have := (show Row v 3 1 encN (.slice (some ⟨gw, 0, none⟩) s.at_.length cw) s.at_ from hvw'.out ▸ hsv.out.wher).set k 2 hkl'.out
          rw [← hvw'.out] at this
          exact this
        · exact Frm.of_set (by simp [RV.fp, hbk]) _
      clear hR
      go_wp2_with fail
      refine (HMv.out _).mono ?_
      rintro e w' ⟨rfl, rfl⟩
      go_upto_region 29 with fail
      clear x0 x1 x2 z1 d0 fz
      revert hd
      generalize World.setCell _ _ _ = w2
      intro hd
      obtain ⟨s1, hs1e⟩ : ∃ s1 : St, { s with at_ := s.at_.set k 2 } = s1 := ⟨_, rfl⟩
      have hk1 : s1.kept = s.kept := by rw [← hs1e]
      rw [hs1e] at hd hE0
      have hE : Hid (R = (0, withK s1 ⟨xd, 2, xn⟩)) := Lib.hid hE0.out
      obtain ⟨p1, hs1, hf1, hm1⟩ := hd
      have kx2 : At w2 w.heap.size 39 #[.int .i64 xd, .int .i64 2, .string xn] := (hf1.block _ kx.lt (fun h => by have := hs0.out.lt h; omega)).trans kx
      obtain ⟨x0, x1, x2⟩ := kx2.three
      obtain ⟨a1, cap1, hve1, hl1, -, -, -⟩ := hs1.ents.view encE_len
      obtain ⟨nn, hnn⟩ : ∃ nn, s1.kept.length = nn := ⟨_, rfl⟩
      have hnn1 : nn ≤ 999 := by rw [← hnn, hk1]; exact hlt.out
      have ho : Hid (w2.ownsRow 0 39 3 (.slice a1 nn cap1) nn (s1.kept.flatMap encE)) := Lib.hid (by rw [← hnn, ← hve1]; exact hs1.ents)
      rw [hnn] at hve1 hl1
      have z4 : w2.cell? ⟨g, 4, none⟩ = some (.slice a1 nn cap1) := by
        have := hs1.own.c 4
        rw [hve1] at this
        exact this
      have Lg := hs1.own.lt
      have hS : Hid (∀ (w5 : World) (v' : Value), w5.ownsRow 0 39 3 v' (nn + 1) (s1.kept.flatMap encE ++ [.int .i64 xd, .int .i64 2, .string xn]) → w2.grownBy w5 (Value.slice a1 nn cap1).ownBlock → (v'.ownBlock = (Value.slice a1 nn cap1).ownBlock ∨ v'.ownBlock = some (w2.heap.size + 1)) → At w5 g 66 #[p1.vl, p1.va, .string s1.member, p1.vc, p1.vk, .bool s1.poured] ∧ RDone w (w5.setCell ⟨g, 4, none⟩ v') g (withK s1 ⟨xd, 2, xn⟩) p) := Lib.hid (fun w5 v' ho5 hg5 hloc => by
        rw [← hve1] at hg5 hloc
        obtain ⟨q1, q2⟩ := hs1.pushK ⟨xd, 2, xn⟩ (by rw [hnn]; exact ho5) hg5 hloc (Nat.le_succ _)
        exact ⟨q1, RDone.then ((Frm.of_below HB).trans hf1 (fun x h => .inl h)) (fun b hb => (hm1 b hb).imp id (Nat.le_trans HB.size)) q2⟩)
      clear hve1 hnn hs1 hs1e hk1 hf1 hm1 hE0
      go_upto_region 29 with fail
      go_region_law (refine step_append_at _ rfl (.tmp 115) (.tmp 117) 35 rfl 0 39 i0 (.agg #[.int .i64 0, .int .i64 0, .string ⟨#[]⟩]) 3 32 Tryz.underlying35 hi hz0 hz1 hz2 rfl (by decide) (.slice a1 nn cap1) nn (s1.kept.flatMap encE) (by simp [Act.eval]) (by first | exact World.ownsRow.alloc (World.ownsRow.drew ho.out) _ | exact World.ownsRow.drew (World.ownsRow.alloc ho.out _)) ⟨w2.heap.size, 0, none⟩ 1 1 [.int .i64 xd, .int .i64 2, .string xn] (by simp [Act.eval]) rfl (three_new (by first | exact At.new _ _ _ | exact At.drw (At.new _ _ _))) (by intro u hu; simp at hu; rcases hu with rfl | rfl | rfl <;> rfl) (by unfold maxLen; omega) (by omega) (by simp) ?_; intro g5 c5 w5 ho5 hg5 hloc; have hg6 := grown_after (w := w2) (by first | exact below_drew (below_al (Below.refl _ _) _) | exact below_al (below_drew (Below.refl _ _)) _) hg5; obtain ⟨hat5, hS5⟩ := hS.out w5 _ ho5 hg6 (by simpa using hloc); have f4 := hat5.f 4; have y4 : w5.cell? ⟨g, 4, none⟩ = some p1.vk := hat5.c 4; replace hS5 := Lib.hid hS5; clear ho5 hg5 hg6 hat5 hloc)
      all_goals (go_wp2_with fail; go_ret; exact ⟨by rw [hE.out]; rfl, by rw [hE.out]; exact hS5.out⟩)
    · have hE : Hid (R = (13, s)) := Lib.hid (by have := hR.out; simpa [hya] using this)
      have h3 : ((y : Int) != 1) = true := by simp; omega
      clear hR hya
      go_wp2_with fail
      refine (HMv.out _).mono ?_
      rintro e w' ⟨rfl, rfl⟩
      go_wp2_with fail
      go_ret
      exact ⟨by rw [hE.out]; rfl, by rw [hE.out]; exact RDone.same hs0.out HB⟩

set_option maxRecDepth 100000 in
set_option maxHeartbeats 2000000 in
theorem rdo_6 (s : St) (hok : s.ok) (xd : Int) (xn : ByteArray) (hz : xn.size ≤ 60) (hlt : Hid (s.kept.length ≤ 999)) (hgv : givenS s ⟨xd, 6, xn⟩ = 0) (g : Nat) (p : RV) (R : Int × St) (w : World) (hs : RefW w g s p) (hR : Hid (if (moveS s xn 1 0).1 ≠ 0 then R = ((moveS s xn 1 0).1, s) else R = (0, { (moveS s xn 1 0).2 with kept := (moveS s xn 1 0).2.kept ++ [⟨xd, 6, xn⟩] }))) :
    Calls Tryz.prog 28 #[.pointer (some ⟨g, 0, none⟩), .agg #[.int .i64 xd, .int .i64 6, .string xn]] w fun e w' => e = .returned (.int .i64 R.1) ∧ RDone w w' g R.2 p := by
  obtain ⟨i0, hi, hz0, hz1, hz2⟩ := info_parts infoEnt
  have hs0 := Lib.hid hs
  have HG := Lib.hid (fun u (hb : Below w.heap.size w u) => given_any s hok xd 6 xn hz g p u (hs.bel hb))
  rw [hgv] at HG
  clear hs
  go_enter Tryz.func28, Tryz.ntmps28
  go_wp2_with fail
  refine (HG.out _ (by repeat (first | with_reducible assumption | with_reducible exact Below.refl _ _ | with_reducible refine below_al ?_ _ | with_reducible refine below_drew ?_ | with_reducible refine below_drewN ?_ _ | with_reducible refine below_set ?_ (by dsimp only; omega) _))).mono ?_
  rintro e w1 ⟨rfl, hb1⟩
  have kx : At w1 w.heap.size 39 #[.int .i64 xd, .int .i64 6, .string xn] := At.bel (At.new' rfl) hb1
  have HB : Below w.heap.size w w1 := below_then (below_al (Below.refl _ _) _) hb1
  clear hb1 HG
  obtain ⟨x0, x1, x2⟩ := kx.three
  obtain ⟨bl, hbl, hrow⟩ := hs0.out.tags
  obtain ⟨ao, cap, hvl, hlc, hcc, -, -⟩ := hrow.view encB_len
  have hbn : bl.length = s.tags.length := by rw [← hbl, List.length_map]
  have hbn1 : bl.length ≤ 1000000 := by have := hok.tagsN; omega
  clear hbn
  have HF : Hid (∀ W, Below w1.heap.size w1 W → Calls Tryz.prog 50 #[.slice ao bl.length cap, .string xn] W fun e w' => e = .returned (.int .i64 (ixI s.tags xn)) ∧ Below W.heap.size W w') := Lib.hid (fun W hW => by
    have hrw := ((show Row W 73 4 encB (.slice ao bl.length cap) bl from hvl ▸ hrow.keep fun x e => (below_then HB hW).block x (hrow.lt e)).at encB_len)
    have := find36_any bl xn ao cap hlc hbn1 _ W (Lib.hid hrw)
    rw [hbl] at this
    exact this.mono fun e w' h => ⟨h.1, h.2 ▸ Below.refl _ _⟩)
  have z0 : w1.cell? ⟨g, 0, none⟩ = some (.slice ao bl.length cap) := by
    have := (hs0.out.bel HB).own.c 0
    rw [hvl] at this
    exact this
  generalize bl.length = nb at *
  obtain ⟨i, hi'⟩ : ∃ i, ixI s.tags xn = i := ⟨_, rfl⟩
  rw [hi'] at HF
  clear hrow hvl hlc hcc
  have K0 := cell_regrown z0
  have KX2 := cell_regrown x2
  go_upto_region 13 with fail
  refine wp_region_quiet_below (by kernel_rfl) (by kernel_rfl) ?_
  repeat (go_big_quiet_step ((first | with_reducible exact regrown_above HF.out)))
  refine wpQuiet_nil ?_
  intro v hb'
  have hb := below_of_regrown hb'
  replace kx := At.bel kx hb
  replace HB := below_then HB hb
  clear hb' hb K0 KX2 x0 x1 x2 z0 HF hbl
  obtain ⟨x0, x1, x2⟩ := kx.three
  unfold moveS at hR
  cases hin : inB xn s.tags
  · rw [hin] at hR
    have hE : Hid (R = (9, s)) := Lib.hid (by have := hR.out; simpa using this)
    have hx : i = -1 := by
      rw [← hi']
      unfold ixI
      rw [if_neg]
      intro h
      unfold ix at h
      rw [List.findIdx_lt_length] at h
      obtain ⟨y, hy, hy2⟩ := h
      have : xn ∈ s.tags := of_decide_eq_true hy2 ▸ hy
      rw [inB_iff.2 this] at hin
      cases hin
    subst hx
    clear hi' hin hR
    go_wp2_with fail
    go_ret
    exact ⟨by rw [hE.out]; rfl, by rw [hE.out]; exact RDone.same hs0.out HB⟩
  · rw [hin] at hR
    obtain ⟨k, hk⟩ : ∃ k, ix s.tags xn = k := ⟨_, rfl⟩
    have hkt : k < s.tags.length := by rw [← hk]; exact ix_mem (inB_iff.1 hin)
    have hkl : k < s.at_.length := by rw [hok.len]; exact hkt
    have hx : i = (k : Int) := by rw [← hi']; unfold ixI; rw [hk, if_pos hkt]
    subst hx
    rw [hk] at hR
    have hgd : s.at_.getD k 0 = s.at_[k] := by simp [List.getD, hkl]
    rw [hgd] at hR
    have hsv := Lib.hid (hs0.out.bel HB)
    obtain ⟨gw, cw, hvw, hlc, -, hfz⟩ := hsv.out.wher.blk (by omega)
    have z1 : v.cell? ⟨g, 1, none⟩ = some (.slice (some ⟨gw, 0, none⟩) s.at_.length cw) := by
      have := hsv.out.own.c 1
      rw [hvw] at this
      exact this
    obtain ⟨b', off', e', d0, hltb⟩ := ((show Row v _ 1 encN (.slice (some ⟨gw, 0, none⟩) s.at_.length cw) s.at_ from hvw ▸ hsv.out.wher).at encN_len).one (f := fun n : Nat => Value.int .i64 (n : Int)) k hkl
    simp only [Option.some.injEq, Addr.mk.injEq, and_true] at e'
    obtain ⟨rfl, rfl⟩ := e'
    have fz := hfz k
    rw [Nat.zero_add] at d0
    obtain ⟨y, hy⟩ : ∃ y, s.at_[k] = y := ⟨_, rfl⟩
    rw [hy] at d0 hR
    have hn1 : s.at_.length ≤ 1000 := by have := hok.len; have := hok.tagsN; omega
    obtain ⟨n, hn⟩ : ∃ n, s.at_.length = n := ⟨_, rfl⟩
    rw [hn] at z1 hn1 hlc
    have hkn : k < n := by omega
    have hkl' := Lib.hid hkl
    have hvw' := Lib.hid hvw
    have HMv := Lib.hid (fun u => moves_any 6 (by decide) u)
    clear hfz hvw hkl hgd hy hk hi' hin hkt
    by_cases hya : y = 1
    · subst hya
      have hE0 : Hid (R = (0, withK { s with at_ := s.at_.set k 0 } ⟨xd, 6, xn⟩)) := Lib.hid (by have := hR.out; simpa [withK] using this)
      have hd : RDone v (v.setCell ⟨gw, k, none⟩ (.int .i64 0)) g { s with at_ := s.at_.set k 0 } p := by
        have d := RDjs.iff.1 hsv.out.sep
        have hbk : p.va.ownBlock = some gw := by rw [hvw'.out]; rfl
        have kp : ∀ o : Option Nat, Dj o p.va.ownBlock → ∀ x, o = some x → (v.setCell ⟨gw, k, none⟩ (.int .i64 0)).heap[x]? = v.heap[x]? := fun o hd x e => Below.heap_setCell _ _ _ _ (fun hx => hd x e (by rw [hbk]; rw [hx]))
        refine hsv.out.remake _ p v.heap.size (Nat.le_refl _) ((kp _ d.g2 g rfl).trans hsv.out.own) rfl rfl (kp _ d.l2) ?_ rfl (hsv.out.opn.keep (kp _ d.a3.symm)) (.inl rfl) (hsv.out.ents.keep (kp _ d.a4.symm)) (.inl rfl) (.inl rfl) ?_
        · have := (show Row v 3 1 encN (.slice (some ⟨gw, 0, none⟩) s.at_.length cw) s.at_ from hvw'.out ▸ hsv.out.wher).set k 0 hkl'.out
          rw [← hvw'.out] at this
          exact this
        · exact Frm.of_set (by simp [RV.fp, hbk]) _
      clear hR
      go_wp2_with fail
      refine (HMv.out _).mono ?_
      rintro e w' ⟨rfl, rfl⟩
      go_upto_region 29 with fail
      clear x0 x1 x2 z1 d0 fz
      revert hd
      generalize World.setCell _ _ _ = w2
      intro hd
      obtain ⟨s1, hs1e⟩ : ∃ s1 : St, { s with at_ := s.at_.set k 0 } = s1 := ⟨_, rfl⟩
      have hk1 : s1.kept = s.kept := by rw [← hs1e]
      rw [hs1e] at hd hE0
      have hE : Hid (R = (0, withK s1 ⟨xd, 6, xn⟩)) := Lib.hid hE0.out
      obtain ⟨p1, hs1, hf1, hm1⟩ := hd
      have kx2 : At w2 w.heap.size 39 #[.int .i64 xd, .int .i64 6, .string xn] := (hf1.block _ kx.lt (fun h => by have := hs0.out.lt h; omega)).trans kx
      obtain ⟨x0, x1, x2⟩ := kx2.three
      obtain ⟨a1, cap1, hve1, hl1, -, -, -⟩ := hs1.ents.view encE_len
      obtain ⟨nn, hnn⟩ : ∃ nn, s1.kept.length = nn := ⟨_, rfl⟩
      have hnn1 : nn ≤ 999 := by rw [← hnn, hk1]; exact hlt.out
      have ho : Hid (w2.ownsRow 0 39 3 (.slice a1 nn cap1) nn (s1.kept.flatMap encE)) := Lib.hid (by rw [← hnn, ← hve1]; exact hs1.ents)
      rw [hnn] at hve1 hl1
      have z4 : w2.cell? ⟨g, 4, none⟩ = some (.slice a1 nn cap1) := by
        have := hs1.own.c 4
        rw [hve1] at this
        exact this
      have Lg := hs1.own.lt
      have hS : Hid (∀ (w5 : World) (v' : Value), w5.ownsRow 0 39 3 v' (nn + 1) (s1.kept.flatMap encE ++ [.int .i64 xd, .int .i64 6, .string xn]) → w2.grownBy w5 (Value.slice a1 nn cap1).ownBlock → (v'.ownBlock = (Value.slice a1 nn cap1).ownBlock ∨ v'.ownBlock = some (w2.heap.size + 1)) → At w5 g 66 #[p1.vl, p1.va, .string s1.member, p1.vc, p1.vk, .bool s1.poured] ∧ RDone w (w5.setCell ⟨g, 4, none⟩ v') g (withK s1 ⟨xd, 6, xn⟩) p) := Lib.hid (fun w5 v' ho5 hg5 hloc => by
        rw [← hve1] at hg5 hloc
        obtain ⟨q1, q2⟩ := hs1.pushK ⟨xd, 6, xn⟩ (by rw [hnn]; exact ho5) hg5 hloc (Nat.le_succ _)
        exact ⟨q1, RDone.then ((Frm.of_below HB).trans hf1 (fun x h => .inl h)) (fun b hb => (hm1 b hb).imp id (Nat.le_trans HB.size)) q2⟩)
      clear hve1 hnn hs1 hs1e hk1 hf1 hm1 hE0
      go_upto_region 29 with fail
      go_region_law (refine step_append_at _ rfl (.tmp 115) (.tmp 117) 35 rfl 0 39 i0 (.agg #[.int .i64 0, .int .i64 0, .string ⟨#[]⟩]) 3 32 Tryz.underlying35 hi hz0 hz1 hz2 rfl (by decide) (.slice a1 nn cap1) nn (s1.kept.flatMap encE) (by simp [Act.eval]) (by first | exact World.ownsRow.alloc (World.ownsRow.drew ho.out) _ | exact World.ownsRow.drew (World.ownsRow.alloc ho.out _)) ⟨w2.heap.size, 0, none⟩ 1 1 [.int .i64 xd, .int .i64 6, .string xn] (by simp [Act.eval]) rfl (three_new (by first | exact At.new _ _ _ | exact At.drw (At.new _ _ _))) (by intro u hu; simp at hu; rcases hu with rfl | rfl | rfl <;> rfl) (by unfold maxLen; omega) (by omega) (by simp) ?_; intro g5 c5 w5 ho5 hg5 hloc; have hg6 := grown_after (w := w2) (by first | exact below_drew (below_al (Below.refl _ _) _) | exact below_al (below_drew (Below.refl _ _)) _) hg5; obtain ⟨hat5, hS5⟩ := hS.out w5 _ ho5 hg6 (by simpa using hloc); have f4 := hat5.f 4; have y4 : w5.cell? ⟨g, 4, none⟩ = some p1.vk := hat5.c 4; replace hS5 := Lib.hid hS5; clear ho5 hg5 hg6 hat5 hloc)
      all_goals (go_wp2_with fail; go_ret; exact ⟨by rw [hE.out]; rfl, by rw [hE.out]; exact hS5.out⟩)
    · have hE : Hid (R = (13, s)) := Lib.hid (by have := hR.out; simpa [hya] using this)
      have h3 : ((y : Int) != 1) = true := by simp; omega
      clear hR hya
      go_wp2_with fail
      refine (HMv.out _).mono ?_
      rintro e w' ⟨rfl, rfl⟩
      go_wp2_with fail
      go_ret
      exact ⟨by rw [hE.out]; rfl, by rw [hE.out]; exact RDone.same hs0.out HB⟩

end Go.Proofs.YtpocmijfkjjboaaGreatDoor
