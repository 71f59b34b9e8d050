/- the reference's site: Do (a check is closed). -/
import Derived.Test.YtpocmijfkjjboaaGreatDoorSiU
set_option linter.unusedVariables false
namespace Go.Proofs.YtpocmijfkjjboaaGreatDoor
open Go.ChangeShapes Go.WideShapes Go.ChangeAt Go.RowKit

theorem made0 (w : World) : (w.alloc (.cells #[] 9)).ownsRow w.heap.size 9 1 (.slice (some ⟨w.heap.size, 0, none⟩) 0 0) 0 [] := World.ownsRow_made w #[] 0 (Nat.le_refl _) (Nat.zero_le _) (by simp)
theorem own_ge {w : World} {base n : Nat} {e : TypeId} {sz : Nat} {v : Value} {xs : List Value} (h : w.ownsRow base e sz v n xs) {j : Nat} (hj : v.ownBlock = some j) : base ≤ j := by
  obtain ⟨_, ⟨h1, _⟩ | ⟨g, cap, cur, h1, h2, _⟩⟩ := h
  · rw [h1] at hj; cases hj
  · rw [h1] at hj
    have hj : some g = some j := hj
    injection hj with hj
    omega
theorem flat_one (l : List ByteArray) : ∀ u ∈ l.flatMap encS, u.oneCell' = true := by
  intro u hu
  obtain ⟨x, _, hx⟩ := List.mem_flatMap.1 hu
  simp [encS] at hx
  subst hx
  rfl
theorem add_off (b o j : Nat) : (⟨b, o, none⟩ : Addr).add j = ⟨b, o + j, none⟩ := by cases j <;> simp [Addr.add]

set_option maxRecDepth 100000 in
set_option maxHeartbeats 8000000 in
theorem rdo_4 (s : St) (hok : s.ok) (xd : Int) (xn : ByteArray) (hz : xn.size ≤ 60) (hlt : Hid (s.kept.length ≤ 999)) (hgv : givenS s ⟨xd, 4, xn⟩ = 0) (g : Nat) (p : RV) (R : Int × St) (w : World) (hs : RefW w g s p) (hR : Hid (if (doneS s xn).1 ≠ 0 then R = ((doneS s xn).1, s) else R = (0, withK (doneS s xn).2 ⟨xd, 4, xn⟩))) :
    Calls Tryz.prog 28 #[.pointer (some ⟨g, 0, none⟩), .agg #[.int .i64 xd, .int .i64 4, .string xn]] w fun e w' => e = .returned (.int .i64 R.1) ∧ RDone w w' g R.2 p := by
  obtain ⟨i0, hi, hz0, hz1, hz2⟩ := info_parts infoEnt
  have hs0 := Lib.hid hs
  have HG := Lib.hid (fun u (hb : Below w.heap.size w u) => given_any s hok xd 4 xn hz g p u (hs.bel hb))
  rw [hgv] at HG
  clear hs
  go_enter Tryz.func28, Tryz.ntmps28
  go_wp2_with fail
  refine (HG.out _ (by repeat (first | with_reducible assumption | with_reducible exact Below.refl _ _ | with_reducible refine below_al ?_ _ | with_reducible refine below_drew ?_ | with_reducible refine below_drewN ?_ _ | with_reducible refine below_set ?_ (by dsimp only; omega) _))).mono ?_
  rintro e w1 ⟨rfl, hb1⟩
  have kx : At w1 w.heap.size 39 #[.int .i64 xd, .int .i64 4, .string xn] := At.bel (At.new' rfl) hb1
  have HB : Below w.heap.size w w1 := below_then (below_al (Below.refl _ _) _) hb1
  clear hb1 HG
  obtain ⟨x0, x1, x2⟩ := kx.three
  obtain ⟨j0, hj, hj0, hj1, hj2⟩ := info_parts infoStr
  have hs1 := Lib.hid (hs0.out.bel HB)
  have HF := Lib.hid (reffind_any s hok xn g p w1 hs1.out)
  unfold doneS at hR
  cases hin : inB xn s.open_
  · rw [hin] at hR
    have hE : Hid (R = (9, s)) := Lib.hid (by have := hR.out; simpa using this)
    have hx : ixI s.open_ xn = -1 := by
      unfold ixI
      rw [if_neg]
      intro h
      unfold ix at h
      rw [List.findIdx_lt_length] at h
      obtain ⟨y, hy, hy2⟩ := h
      have : xn ∈ s.open_ := of_decide_eq_true hy2 ▸ hy
      rw [inB_iff.2 this] at hin
      cases hin
    rw [hx] at HF
    clear hx hR hin
    go_wp2_with fail
    refine (HF.out).mono ?_
    rintro e w' ⟨rfl, rfl⟩
    go_wp2_with fail
    go_ret
    exact ⟨by rw [hE.out]; rfl, by rw [hE.out]; exact RDone.same hs0.out HB⟩
  · rw [hin] at hR
    obtain ⟨k, hkk⟩ : ∃ k, ix s.open_ xn = k := ⟨_, rfl⟩
    have hk : k < s.open_.length := by rw [← hkk]; exact ix_mem (inB_iff.1 hin)
    have hx : ixI s.open_ xn = (k : Int) := by unfold ixI; rw [hkk, if_pos hk]
    rw [hx] at HF
    rw [hkk] at hR
    have hE0 : Hid (R = (0, withK { s with open_ := s.open_.eraseIdx k } ⟨xd, 4, xn⟩)) := Lib.hid (by have := hR.out; simpa [withK] using this)
    obtain ⟨gc, cap, hvo, hlc, -, -⟩ := hs1.out.opn.blk (by omega)
    have hn1 : s.open_.length ≤ 1000 := by have := hok.openN; have := hok.keptN; omega
    have heras : Hid ((s.open_.eraseIdx k).flatMap encS = (s.open_.take k).flatMap encS ++ (s.open_.drop (k + 1)).flatMap encS) := Lib.hid (by rw [List.eraseIdx_eq_take_drop_succ, List.flatMap_append])
    have herl : Hid ((s.open_.eraseIdx k).length = s.open_.length - 1) := Lib.hid (by rw [List.length_eraseIdx, if_pos hk])
    have hl1 : Hid (((s.open_.take k).flatMap encS).length = k * 1) := Lib.hid (by rw [flat_len encS_len, List.length_take]; congr 1; omega)
    have hl2 : Hid (((s.open_.drop (k + 1)).flatMap encS).length = (s.open_.length - (k + 1)) * 1) := Lib.hid (by rw [flat_len encS_len, List.length_drop])
    have hone1 := Lib.hid (flat_one (s.open_.take k))
    have hone2 := Lib.hid (flat_one (s.open_.drop (k + 1)))
    have hrow : Hid (∀ W, Below w1.heap.size w1 W → RowAt encS 1 W.heap.size W (some ⟨gc, 0, none⟩) s.open_) := Lib.hid (fun W hW => by
      have := (hs1.out.bel hW).opn
      rw [hvo] at this
      exact this.at encS_len)
    have HN1 : Hid (∀ W, Below w1.heap.size w1 W → ∀ j u, ((s.open_.take k).flatMap encS)[j]? = some u → W.cell? ((⟨gc, 0, none⟩ : Addr).add j) = some u) := Lib.hid (fun W hW j u hu => by
      rw [add_off]
      refine (hrow.out W hW).flat encS_len (by decide) j u ?_
      rw [← hu]
      have : s.open_.flatMap encS = (s.open_.take k).flatMap encS ++ (s.open_.drop k).flatMap encS := by rw [← List.flatMap_append, List.take_append_drop]
      rw [this, List.getElem?_append_left (List.getElem?_eq_some_iff.1 hu).1])
    have HN2 : Hid (∀ W, Below w1.heap.size w1 W → ∀ j u, ((s.open_.drop (k + 1)).flatMap encS)[j]? = some u → W.cell? ((⟨gc, k + 1, none⟩ : Addr).add j) = some u) := Lib.hid (fun W hW j u hu => by
      rw [add_off]
      have h1 := (hrow.out W hW).flat encS_len (by decide) (k + 1 + j) u (by
        rw [← hu]
        have : s.open_.flatMap encS = (s.open_.take (k + 1)).flatMap encS ++ (s.open_.drop (k + 1)).flatMap encS := by rw [← List.flatMap_append, List.take_append_drop]
        have hl : ((s.open_.take (k + 1)).flatMap encS).length = k + 1 := by rw [flat_len encS_len, List.length_take]; omega
        rw [this, List.getElem?_append_right (by omega), hl]
        congr 1
        omega)
      rw [Nat.zero_add] at h1
      exact h1)
    have hS4 : Hid (∀ (w6 : World) (v' : Value) (xs : List Value), w6.ownsRow w1.heap.size 9 1 v' (0 + k + (s.open_.length - (k + 1))) xs → Below w1.heap.size w1 w6 → xs = (s.open_.eraseIdx k).flatMap encS → At w6 g 66 #[p.vl, p.va, .string s.member, p.vc, p.vk, .bool s.poured] ∧ RDone w1 (w6.setCell ⟨g, 3, none⟩ v') g { s with open_ := s.open_.eraseIdx k } p) := Lib.hid (fun w6 v' xs ho6 hb6 hxs => by
      subst hxs
      have hlen : 0 + k + (s.open_.length - (k + 1)) = (s.open_.eraseIdx k).length := by rw [herl.out]; omega
      rw [hlen] at ho6
      have hga : w1.grownBy w6 p.vc.ownBlock := ⟨hb6.os, hb6.tape, hb6.output, hb6.size, fun i hi _ => hb6.block i hi⟩
      have ho60 : w6.ownsRow 0 9 1 v' (s.open_.eraseIdx k).length ((s.open_.eraseIdx k).flatMap encS) := ⟨ho6.1, ho6.2.imp id fun ⟨g, cap, cur, h1, _, h3⟩ => ⟨g, cap, cur, h1, Nat.zero_le _, h3⟩⟩
      cases hv : v'.ownBlock with
      | none => exact hs1.out.putC (N := w1.heap.size) _ ho60 hga (.inr (.inr hv)) (Nat.le_refl _)
      | some N => exact hs1.out.putC (N := N) _ ho60 hga (.inr (.inl hv)) (own_ge ho6 hv))
    rw [hvo] at hS4
    have z3 : w1.cell? ⟨g, 3, none⟩ = some (.slice (some ⟨gc, 0, none⟩) s.open_.length cap) := by
      have := hs1.out.own.c 3
      rw [hvo] at this
      exact this
    obtain ⟨n, hn⟩ : ∃ n, s.open_.length = n := ⟨_, rfl⟩
    rw [hn] at hn1 hlc z3 hS4 hk hl2
    have Lg := hs1.out.own.lt
    have hwk : IntKind.i64.wrap ((k : Int) + 1) = (k : Int) + 1 := IntWalk.i64_in _ (by omega)
    clear hx hin hvo hn hkk hrow herl
    go_wp2_with fail
    refine (HF.out).mono ?_
    rintro e w' ⟨rfl, rfl⟩
    go_upto_region 28 with fail
    focus
      clear hR
      by_cases hck : cap = k + 1
      · obtain rfl : n = k + 1 := by omega
        subst hck
        have HN2' : Hid (∀ W, Below w1.heap.size w1 W → ∀ j u, ((s.open_.drop (k + 1)).flatMap encS)[j]? = some u → W.cell? ((⟨gc, 0, none⟩ : Addr).add j) = some u) := Lib.hid (fun W hW j u hu => by
          have := (List.getElem?_eq_some_iff.1 hu).1
          have h2 := hl2.out
          omega)
        replace HN2 := HN2'
        clear HN2'
        rw [Nat.sub_self] at hl2 hS4
        have i1 : (k : Int) ≤ (k : Int) + 1 := by omega
        have i5 : (0 : Int) ≤ (k : Int) := by omega
        have i3 : (0 : Int) ≤ (k : Int) + 1 := by omega
        go_region_law (first | (refine step_append_at _ rfl (.tmp 93) (.tmp 99) 48 rfl w1.heap.size 9 j0 (.string ⟨#[]⟩) 1 16 Tryz.underlying48 hj hj0 hj1 hj2 rfl (by decide) (.slice (some ⟨w1.heap.size, 0, none⟩) 0 0) 0 [] (by first | (simp [Act.eval]; done) | simp [Act.eval, Act.put]) (by first | exact made0 w1 | exact (made0 w1).drew) ⟨gc, 0, none⟩ k (k + 1) ((s.open_.take k).flatMap encS) (by first | (simp [Act.eval]; done) | simp [Act.eval, Act.put]) hl1.out (HN1.out _ (by repeat (first | with_reducible assumption | with_reducible exact Below.refl _ _ | with_reducible refine below_al ?_ _ | with_reducible refine below_drew ?_))) hone1.out (by unfold maxLen; omega) (by omega) (by first | exact Nat.le_succ _ | (simp; done)) ?_; intro a5 c5 w5 ho5 hg5 hloc5; have hb5 : Below w1.heap.size w1 w5 := Below.grown (by repeat (first | with_reducible assumption | with_reducible exact Below.refl _ _ | with_reducible refine below_al ?_ _ | with_reducible refine below_drew ?_)) hg5 (by first | exact Nat.le_succ _ | (simp; done)) (fun j hj => by have hj : some w1.heap.size = some j := hj; injection hj with hj; omega); have y3 : w5.cell? ⟨g, 3, none⟩ = some (.slice (some ⟨gc, 0, none⟩) (k + 1) (k + 1)) := cell_up hb5 z3; have ho6 := Lib.hid ho5; clear ho5 hg5 hloc5) | (refine step_append_at _ rfl (.tmp 100) (.tmp 107) 48 rfl w1.heap.size 9 j0 (.string ⟨#[]⟩) 1 16 Tryz.underlying48 hj hj0 hj1 hj2 rfl (by decide) (.slice a5 (0 + k) c5) (0 + k) _ (by first | (simp [Act.eval]; done) | simp [Act.eval, Act.put]) ho6.out ⟨gc, 0, none⟩ 0 0 ((s.open_.drop (k + 1)).flatMap encS) (by first | (simp [Act.eval]; done) | simp [Act.eval, Act.put]) hl2.out (HN2.out _ (by repeat (first | with_reducible assumption | with_reducible exact Below.refl _ _ | with_reducible refine below_al ?_ _ | with_reducible refine below_drew ?_))) hone2.out (by unfold maxLen; omega) (by omega) hb5.size ?_; intro a6 c6 w6 ho7 hg6 hloc6; have hb6 : Below w1.heap.size w1 w6 := Below.grown hb5 hg6 hb5.size (fun j hj => own_ge ho6.out hj); obtain ⟨hat6, hd⟩ := hS4.out w6 _ _ ho7 hb6 (by rw [heras.out]; simp); have f3 := hat6.f 3; have q3 : w6.cell? ⟨g, 3, none⟩ = some (.slice (some ⟨gc, 0, none⟩) (k + 1) (k + 1)) := hat6.c 3; clear ho7 hg6 hloc6 hat6; simp only [Nat.zero_add, Nat.add_zero] at hd))
        all_goals
          go_upto_region 29 with fail
          clear x0 x1 x2 z3 f3 q3 y3 hS4 HN1 HN2
          revert hd
          generalize World.setCell _ _ _ = w2
          intro hd
          obtain ⟨s1, hs1e⟩ : ∃ s1 : St, { s with open_ := s.open_.eraseIdx k } = s1 := ⟨_, rfl⟩
          have hk1 : s1.kept = s.kept := by rw [← hs1e]
          rw [hs1e] at hd hE0
          have hE : Hid (R = (0, withK s1 ⟨xd, 4, xn⟩)) := Lib.hid hE0.out
          obtain ⟨p1, hs1, hf1, hm1⟩ := hd
          have kx2 : At w2 w.heap.size 39 #[.int .i64 xd, .int .i64 4, .string xn] := (hf1.block _ kx.lt (fun h => by have := hs0.out.lt h; omega)).trans kx
          obtain ⟨x0, x1, x2⟩ := kx2.three
          obtain ⟨a1, cap1, hve1, hl1, -, -, -⟩ := hs1.ents.view encE_len
          obtain ⟨nn, hnn⟩ : ∃ nn, s1.kept.length = nn := ⟨_, rfl⟩
          have hnn1 : nn ≤ 999 := by rw [← hnn, hk1]; exact hlt.out
          have ho : Hid (w2.ownsRow 0 39 3 (.slice a1 nn cap1) nn (s1.kept.flatMap encE)) := Lib.hid (by rw [← hnn, ← hve1]; exact hs1.ents)
          rw [hnn] at hve1 hl1
          have z4 : w2.cell? ⟨g, 4, none⟩ = some (.slice a1 nn cap1) := by
            have := hs1.own.c 4
            rw [hve1] at this
            exact this
          have Lg := hs1.own.lt
          have hS : Hid (∀ (w5 : World) (v' : Value), w5.ownsRow 0 39 3 v' (nn + 1) (s1.kept.flatMap encE ++ [.int .i64 xd, .int .i64 4, .string xn]) → w2.grownBy w5 (Value.slice a1 nn cap1).ownBlock → (v'.ownBlock = (Value.slice a1 nn cap1).ownBlock ∨ v'.ownBlock = some (w2.heap.size + 1)) → At w5 g 66 #[p1.vl, p1.va, .string s1.member, p1.vc, p1.vk, .bool s1.poured] ∧ RDone w (w5.setCell ⟨g, 4, none⟩ v') g (withK s1 ⟨xd, 4, xn⟩) p) := Lib.hid (fun w5 v' ho5 hg5 hloc => by
            rw [← hve1] at hg5 hloc
            obtain ⟨q1, q2⟩ := hs1.pushK ⟨xd, 4, xn⟩ (by rw [hnn]; exact ho5) hg5 hloc (Nat.le_succ _)
            exact ⟨q1, RDone.then ((Frm.of_below HB).trans hf1 (fun x h => .inl h)) (fun b hb => (hm1 b hb).imp id (Nat.le_trans HB.size)) q2⟩)
          clear hve1 hnn hs1 hs1e hk1 hf1 hm1 hE0
          go_upto_region 29 with fail
          go_region_law (refine step_append_at _ rfl (.tmp 115) (.tmp 117) 35 rfl 0 39 i0 (.agg #[.int .i64 0, .int .i64 0, .string ⟨#[]⟩]) 3 32 Tryz.underlying35 hi hz0 hz1 hz2 rfl (by decide) (.slice a1 nn cap1) nn (s1.kept.flatMap encE) (by simp [Act.eval]) (by first | exact World.ownsRow.alloc (World.ownsRow.drew ho.out) _ | exact World.ownsRow.drew (World.ownsRow.alloc ho.out _)) ⟨w2.heap.size, 0, none⟩ 1 1 [.int .i64 xd, .int .i64 4, .string xn] (by simp [Act.eval]) rfl (three_new (by first | exact At.new _ _ _ | exact At.drw (At.new _ _ _))) (by intro u hu; simp at hu; rcases hu with rfl | rfl | rfl <;> rfl) (by unfold maxLen; omega) (by omega) (by simp) ?_; intro g5 c5 w5 ho5 hg5 hloc; have hg6 := grown_after (w := w2) (by first | exact below_drew (below_al (Below.refl _ _) _) | exact below_al (below_drew (Below.refl _ _)) _) hg5; obtain ⟨hat5, hS5⟩ := hS.out w5 _ ho5 hg6 (by simpa using hloc); have f4 := hat5.f 4; have y4 : w5.cell? ⟨g, 4, none⟩ = some p1.vk := hat5.c 4; replace hS5 := Lib.hid hS5; clear ho5 hg5 hg6 hat5 hloc)
          all_goals (go_wp2_with fail; go_ret; exact ⟨by rw [hE.out]; rfl, by rw [hE.out]; exact hS5.out⟩)
      · have hck2 : k + 1 < cap := by omega
        have i1 : (k : Int) ≤ (cap : Int) := by omega
        have i2 : (k : Int) + 1 ≤ (n : Int) := by omega
        have i4 : (n : Int) ≤ (cap : Int) := by omega
        have i5 : (0 : Int) ≤ (k : Int) := by omega
        have i3 : (0 : Int) ≤ (k : Int) + 1 := by omega
        go_region_law (first | (refine step_append_at _ rfl (.tmp 93) (.tmp 99) 48 rfl w1.heap.size 9 j0 (.string ⟨#[]⟩) 1 16 Tryz.underlying48 hj hj0 hj1 hj2 rfl (by decide) (.slice (some ⟨w1.heap.size, 0, none⟩) 0 0) 0 [] (by first | (simp [Act.eval]; done) | simp [Act.eval, Act.put]) (by first | exact made0 w1 | exact (made0 w1).drew) ⟨gc, 0, none⟩ k cap ((s.open_.take k).flatMap encS) (by first | (simp [Act.eval]; done) | simp [Act.eval, Act.put]) hl1.out (HN1.out _ (by repeat (first | with_reducible assumption | with_reducible exact Below.refl _ _ | with_reducible refine below_al ?_ _ | with_reducible refine below_drew ?_))) hone1.out (by unfold maxLen; omega) (by omega) (by first | exact Nat.le_succ _ | (simp; done)) ?_; intro a5 c5 w5 ho5 hg5 hloc5; have hb5 : Below w1.heap.size w1 w5 := Below.grown (by repeat (first | with_reducible assumption | with_reducible exact Below.refl _ _ | with_reducible refine below_al ?_ _ | with_reducible refine below_drew ?_)) hg5 (by first | exact Nat.le_succ _ | (simp; done)) (fun j hj => by have hj : some w1.heap.size = some j := hj; injection hj with hj; omega); have y3 : w5.cell? ⟨g, 3, none⟩ = some (.slice (some ⟨gc, 0, none⟩) n cap) := cell_up hb5 z3; have ho6 := Lib.hid ho5; clear ho5 hg5 hloc5) | (refine step_append_at _ rfl (.tmp 100) (.tmp 107) 48 rfl w1.heap.size 9 j0 (.string ⟨#[]⟩) 1 16 Tryz.underlying48 hj hj0 hj1 hj2 rfl (by decide) (.slice a5 (0 + k) c5) (0 + k) _ (by first | (simp [Act.eval]; done) | simp [Act.eval, Act.put]) ho6.out ⟨gc, k + 1, none⟩ (n - (k + 1)) (cap - (k + 1)) ((s.open_.drop (k + 1)).flatMap encS) (by first | (simp [Act.eval]; done) | simp [Act.eval, Act.put]) hl2.out (HN2.out _ (by repeat (first | with_reducible assumption | with_reducible exact Below.refl _ _ | with_reducible refine below_al ?_ _ | with_reducible refine below_drew ?_))) hone2.out (by unfold maxLen; omega) (by omega) hb5.size ?_; intro a6 c6 w6 ho7 hg6 hloc6; have hb6 : Below w1.heap.size w1 w6 := Below.grown hb5 hg6 hb5.size (fun j hj => own_ge ho6.out hj); obtain ⟨hat6, hd⟩ := hS4.out w6 _ _ ho7 hb6 (by rw [heras.out]; simp); have f3 := hat6.f 3; have q3 : w6.cell? ⟨g, 3, none⟩ = some (.slice (some ⟨gc, 0, none⟩) n cap) := hat6.c 3; clear ho7 hg6 hloc6 hat6; simp only [Nat.zero_add] at hd))
        all_goals
          go_upto_region 29 with fail
          clear x0 x1 x2 z3 f3 q3 y3 hS4 HN1 HN2
          revert hd
          generalize World.setCell _ _ _ = w2
          intro hd
          obtain ⟨s1, hs1e⟩ : ∃ s1 : St, { s with open_ := s.open_.eraseIdx k } = s1 := ⟨_, rfl⟩
          have hk1 : s1.kept = s.kept := by rw [← hs1e]
          rw [hs1e] at hd hE0
          have hE : Hid (R = (0, withK s1 ⟨xd, 4, xn⟩)) := Lib.hid hE0.out
          obtain ⟨p1, hs1, hf1, hm1⟩ := hd
          have kx2 : At w2 w.heap.size 39 #[.int .i64 xd, .int .i64 4, .string xn] := (hf1.block _ kx.lt (fun h => by have := hs0.out.lt h; omega)).trans kx
          obtain ⟨x0, x1, x2⟩ := kx2.three
          obtain ⟨a1, cap1, hve1, hl1, -, -, -⟩ := hs1.ents.view encE_len
          obtain ⟨nn, hnn⟩ : ∃ nn, s1.kept.length = nn := ⟨_, rfl⟩
          have hnn1 : nn ≤ 999 := by rw [← hnn, hk1]; exact hlt.out
          have ho : Hid (w2.ownsRow 0 39 3 (.slice a1 nn cap1) nn (s1.kept.flatMap encE)) := Lib.hid (by rw [← hnn, ← hve1]; exact hs1.ents)
          rw [hnn] at hve1 hl1
          have z4 : w2.cell? ⟨g, 4, none⟩ = some (.slice a1 nn cap1) := by
            have := hs1.own.c 4
            rw [hve1] at this
            exact this
          have Lg := hs1.own.lt
          have hS : Hid (∀ (w5 : World) (v' : Value), w5.ownsRow 0 39 3 v' (nn + 1) (s1.kept.flatMap encE ++ [.int .i64 xd, .int .i64 4, .string xn]) → w2.grownBy w5 (Value.slice a1 nn cap1).ownBlock → (v'.ownBlock = (Value.slice a1 nn cap1).ownBlock ∨ v'.ownBlock = some (w2.heap.size + 1)) → At w5 g 66 #[p1.vl, p1.va, .string s1.member, p1.vc, p1.vk, .bool s1.poured] ∧ RDone w (w5.setCell ⟨g, 4, none⟩ v') g (withK s1 ⟨xd, 4, xn⟩) p) := Lib.hid (fun w5 v' ho5 hg5 hloc => by
            rw [← hve1] at hg5 hloc
            obtain ⟨q1, q2⟩ := hs1.pushK ⟨xd, 4, xn⟩ (by rw [hnn]; exact ho5) hg5 hloc (Nat.le_succ _)
            exact ⟨q1, RDone.then ((Frm.of_below HB).trans hf1 (fun x h => .inl h)) (fun b hb => (hm1 b hb).imp id (Nat.le_trans HB.size)) q2⟩)
          clear hve1 hnn hs1 hs1e hk1 hf1 hm1 hE0
          go_upto_region 29 with fail
          go_region_law (refine step_append_at _ rfl (.tmp 115) (.tmp 117) 35 rfl 0 39 i0 (.agg #[.int .i64 0, .int .i64 0, .string ⟨#[]⟩]) 3 32 Tryz.underlying35 hi hz0 hz1 hz2 rfl (by decide) (.slice a1 nn cap1) nn (s1.kept.flatMap encE) (by simp [Act.eval]) (by first | exact World.ownsRow.alloc (World.ownsRow.drew ho.out) _ | exact World.ownsRow.drew (World.ownsRow.alloc ho.out _)) ⟨w2.heap.size, 0, none⟩ 1 1 [.int .i64 xd, .int .i64 4, .string xn] (by simp [Act.eval]) rfl (three_new (by first | exact At.new _ _ _ | exact At.drw (At.new _ _ _))) (by intro u hu; simp at hu; rcases hu with rfl | rfl | rfl <;> rfl) (by unfold maxLen; omega) (by omega) (by simp) ?_; intro g5 c5 w5 ho5 hg5 hloc; have hg6 := grown_after (w := w2) (by first | exact below_drew (below_al (Below.refl _ _) _) | exact below_al (below_drew (Below.refl _ _)) _) hg5; obtain ⟨hat5, hS5⟩ := hS.out w5 _ ho5 hg6 (by simpa using hloc); have f4 := hat5.f 4; have y4 : w5.cell? ⟨g, 4, none⟩ = some p1.vk := hat5.c 4; replace hS5 := Lib.hid hS5; clear ho5 hg5 hg6 hat5 hloc)
          all_goals (go_wp2_with fail; go_ret; exact ⟨by rw [hE.out]; rfl, by rw [hE.out]; exact hS5.out⟩)

end Go.Proofs.YtpocmijfkjjboaaGreatDoor
