/- site: Do. the reference's site: frames of its parts; moves, Given; append at a step of a drawn region. the reference's site: Do. the reference's site: Do (checks and pours). the reference's site: Do (a check is closed). the reference's site: Do at every entry; what an entry leaves is a state again. -/
import Derived.Test.YtjlkbmaigcgnbaaDoorBJ10
import Derived.Test.YtjlkbmaigcgnbaaDoorBJ08
import Derived.Deep.AppendLies
import Derived.Deep.RegionLaw
import Derived.BigRegion
set_option linter.unusedVariables false
namespace Go.Proofs.YtjlkbmaigcgnbaaDoor
open Go.ChangeShapes Go.WideShapes Go.ChangeAt Go.RowKit
theorem SiteW.pushK {w w1 : World} {g N : Nat} {s : St} {p : SV} (hs : SiteW w g s p) (x : Ent) {v' : Value} (ho1 : w1.ownsRow 0 58 3 v' (s.kept.length + 1) (s.kept.flatMap encE ++ encE x)) (hga : w.grownBy w1 p.ve.ownBlock) (hloc : v'.ownBlock = p.ve.ownBlock ∨ v'.ownBlock = some N) (hN : w.heap.size ≤ N) :
    At w1 g 84 #[p.vt, p.vw, .string s.member, p.vo, p.ve, .bool s.poured, .map p.om] ∧ SDone w (w1.setCell ⟨g, 4, none⟩ v') g { s with kept := s.kept ++ [x] } p := by
  have d := Djs.iff.1 hs.sep
  have hat1 : At w1 g 84 #[p.vt, p.vw, .string s.member, p.vo, p.ve, .bool s.poured, .map p.om] := (hga.block g hs.own.lt (fun e => d.g4 g rfl e.symm)).trans hs.own
  refine ⟨hat1, ?_⟩
  have kp : ∀ o : Option Nat, Dj (some g) o → Dj o p.ve.ownBlock → (∀ x, o = some x → x < w.heap.size) → ∀ x, o = some x → (w1.setCell ⟨g, 4, none⟩ v').heap[x]? = w.heap[x]? := fun o h1 h2 h3 x e => (Below.heap_setCell _ _ _ _ (fun hx => h1 x (by rw [hx]) e)).trans (hga.block x (h3 x e) (fun e2 => h2 x e e2.symm))
  have hrow1 : Row w1 58 3 encE v' (s.kept ++ [x]) := by
    unfold Row
    rw [List.length_append, List.flatMap_append, List.flatMap_singleton]
    exact ho1
  refine hs.remake _ ⟨p.vt, p.vw, p.vo, v', p.om⟩ N hN (by simpa using hat1.put 4 v') rfl rfl rfl (kp _ d.g1 d.t4 fun x e => hs.tags.lt e) (kp _ d.g5 d.e5.symm fun x e => (hs.idx x e).lt) (hs.wher.keep (kp _ d.g2 d.w4 fun x e => hs.wher.lt e)) rfl (hs.opn.keep (kp _ d.g3 d.o4 fun x e => hs.opn.lt e)) (.inl rfl) (hrow1.keep fun x e => Below.heap_setCell _ _ _ _ (fun hx => by
    have hx : x = g := hx
    rcases hloc with q | q
    · exact d.g4 g rfl (by rw [← q, e, hx])
    · rw [q] at e
      injection e with e
      have := hs.own.lt
      omega)) hloc (.inl rfl) ?_
  exact Frm.trans (F' := p.fp g) (Frm.of_grown hga (.inl (by simp [SV.fp]))) (Frm.of_set (by simp [SV.fp]) _) (fun x h => .inl h)
theorem actS_kept (s : St) (x : Ent) : (actS s x).2.kept = s.kept := by
  unfold actS moveS checkS doneS pourS
  split
  · split <;> (try split) <;> rfl
  split
  · split <;> (try split) <;> rfl
  split
  · split <;> (try split) <;> rfl
  split
  · split <;> (try split) <;> rfl
  split
  · split <;> (try split) <;> rfl
  · split <;> (try split) <;> rfl
theorem actS_fail (s : St) (x : Ent) (h : (actS s x).1 ≠ 0) : (actS s x).2 = s := by
  unfold actS moveS checkS doneS pourS at h ⊢
  split at h
  · rename_i q; rw [if_pos q]; split at h <;> (try split at h) <;> simp_all
  rename_i q1; rw [if_neg q1]
  split at h
  · rename_i q; rw [if_pos q]; split at h <;> (try split at h) <;> simp_all
  rename_i q2; rw [if_neg q2]
  split at h
  · rename_i q; rw [if_pos q]; split at h <;> (try split at h) <;> simp_all
  rename_i q3; rw [if_neg q3]
  split at h
  · rename_i q; rw [if_pos q]; split at h <;> (try split at h) <;> simp_all
  rename_i q4; rw [if_neg q4]
  split at h
  · rename_i q; rw [if_pos q]; split at h <;> (try split at h) <;> simp_all
  rename_i q5; rw [if_neg q5]
  split at h <;> (try split at h) <;> simp_all
set_option maxRecDepth 100000 in
set_option maxHeartbeats 2000000 in
theorem do_any (s : St) (hok : s.ok) (xd xk : Int) (xn : ByteArray) (hz : xn.size ≤ 60) (g : Nat) (p : SV) (w : World) (hs : SiteW w g s p) :
    Calls Tryd.prog 17 #[.pointer (some ⟨g, 0, none⟩), .agg #[.int .i64 xd, .int .i64 xk, .string xn]] w fun e w' => e = .returned (.int .i64 (doS s ⟨xd, xk, xn⟩).1) ∧ SDone w w' g (doS s ⟨xd, xk, xn⟩).2 p := by
  obtain ⟨i0, hi, hz0, hz1, hz2⟩ := info_parts infoEnt
  obtain ⟨R, hR⟩ : ∃ R, doS s ⟨xd, xk, xn⟩ = R := ⟨_, rfl⟩
  rw [hR]
  unfold doS at hR
  have hs0 := Lib.hid hs
  have HA := Lib.hid (fun u (hb : Below w.heap.size w u) => act_any s hok xd xk xn hz g p u (hs.bel hb))
  obtain ⟨b, hb⟩ : ∃ b, logV [⟨xd, xk, xn⟩] = b := ⟨_, rfl⟩
  have HV := Lib.hid (fun (q : Nat) u hr => jvalid_any [⟨xd, xk, xn⟩] (some ⟨q, 0, none⟩) 1 (Nat.le_refl _) (by omega) (Lib.hid (fun x hx => by rw [List.mem_singleton.1 hx]; show xn.size ≤ _; omega)) u (Lib.hid hr))
  rw [hb] at HV
  obtain ⟨gv, hgv⟩ : ∃ gv, givenS s ⟨xd, xk, xn⟩ = gv := ⟨_, rfl⟩
  rw [hgv] at hR
  unfold givenS at hgv
  rw [hb] at hgv
  have hkn := hok.keptN
  obtain ⟨n, hn⟩ : ∃ n, s.kept.length = n := ⟨_, rfl⟩
  rw [hn] at hkn hgv
  obtain ⟨ao, cap, hve, hlc, -, -, -⟩ := hs.ents.view encE_len
  rw [hn] at hve hlc
  replace hR := Lib.hid hR
  clear hs hb
  go_enter Tryd.func17, Tryd.ntmps17
  go_wp2_with fail
  refine (HV.out (w.heap.size + 1) _ ?hra).mono ?_
  case hra =>
    intro k hk
    have hk0 : k = 0 := by simpa using hk
    subst hk0
    refine ⟨w.heap.size + 1, 0, rfl, by simp, fun j u hu => ?_⟩
    rw [(At.new' (w := w.alloc _) (n := w.heap.size + 1) (by simp)).c]
    simpa [encE] using hu
  rintro e w1 ⟨rfl, hb1⟩
  have kx : At w1 w.heap.size 58 #[.int .i64 xd, .int .i64 xk, .string xn] := At.bel (At.al (At.new' rfl) _) hb1
  have HB : Below w.heap.size w w1 := below_then (below_al (below_al (Below.refl _ _) _) _) hb1
  clear hb1 HV
  obtain ⟨x0, x1, x2⟩ := kx.three
  have z4 : w1.cell? ⟨g, 4, none⟩ = some (.slice ao n cap) := by
    have := (hs0.out.bel HB).own.c 4
    rw [hve] at this
    exact this
  have z5 : w1.cell? ⟨g, 5, none⟩ = some (.bool s.poured) := (hs0.out.bel HB).own.c 5
  cases b
  · have hE : Hid (R = (1, s)) := Lib.hid (by
      rw [if_pos rfl] at hgv
      have := hR.out
      rw [← hgv] at this
      exact this.symm)
    clear hgv
    go_wp2_with fail
    go_ret
    exact ⟨by rw [hE.out]; rfl, by rw [hE.out]; exact SDone.same hs0.out HB⟩
  rw [if_neg (by decide)] at hgv
  by_cases t1 : 1000 ≤ n
  · have hE : Hid (R = (4, s)) := Lib.hid (by
      rw [if_pos t1] at hgv
      have := hR.out
      rw [← hgv] at this
      exact this.symm)
    clear hgv
    go_wp2_with fail
    go_ret
    exact ⟨by rw [hE.out]; rfl, by rw [hE.out]; exact SDone.same hs0.out HB⟩
  rw [if_neg t1] at hgv
  obtain ⟨ld, hld⟩ : ∃ ld, lastDay s.kept = ld := ⟨_, rfl⟩
  rw [hld] at hgv
  have K0 := cell_regrown x0
  have K4 := cell_regrown z4
  have hprev : ∀ m, n = m + 1 → ∃ ga, ao = some ⟨ga, 0, none⟩ ∧ w1.cell? ⟨ga, m * 3, none⟩ = some (.int .i64 ld) := fun m h0 => by
    have hse := (hs0.out.bel HB).ents
    rw [hve] at hse
    obtain ⟨ga, _, e, c0, _, _, _⟩ := (hse.at encE_len).ent m (by omega)
    obtain ⟨ga', cap', hv', _⟩ := (hs0.out.ents).blk (by omega)
    rw [hve, e] at hv'
    simp only [Value.slice.injEq, Option.some.injEq, Addr.mk.injEq, and_true] at hv'
    obtain ⟨⟨rfl, rfl⟩, -, -⟩ := hv'
    refine ⟨ga, e, ?_⟩
    rw [Nat.zero_add] at c0
    rw [c0, ← hld]
    have := lastDay_prev (l := s.kept) (k := n) (j := m) (by omega) (by omega)
    rw [List.take_of_length_le (by omega)] at this
    rw [this]
  go_upto_region 6 with fail
  by_cases n0 : 0 < n
  · obtain ⟨m, rfl⟩ : ∃ m, n = m + 1 := ⟨n - 1, by omega⟩
    obtain ⟨ga, rfl, pc⟩ := hprev m rfl
    have P0 := cell_regrown pc
    have hw1 : IntKind.i64.wrap (((m + 1 : Nat) : Int) - 1) = (m : Int) := by rw [IntWalk.i64_in _ (by omega)]; omega
    have hg1 : decide ((0 : Int) < ((m + 1 : Nat) : Int)) = true := by simp
    by_cases t2 : xd < ld
    · have hE : Hid (R = (17, s)) := Lib.hid (by
        rw [if_pos ⟨n0, t2⟩] at hgv
        have := hR.out
        rw [← hgv] at this
        exact this.symm)
      clear hgv
      refine wp_region_quiet_below (by kernel_rfl) (by kernel_rfl) ?_
      repeat (go_big_quiet_step (fail))
      refine wpQuiet_nil ?_
      intro v hb'
      have hb := below_of_regrown hb'
      have y0 := cell_up hb x0
      have y1 := cell_up hb x1
      have y2 := cell_up hb x2
      have y4 := cell_up hb z4
      have y5 := cell_up hb z5
      replace kx := At.bel kx hb
      replace HB := below_then HB hb
      clear hb' hb K0 K4 x0 x1 x2 z4 z5
      go_wp2_with fail
      go_ret
      exact ⟨by rw [hE.out]; rfl, by rw [hE.out]; exact SDone.same hs0.out HB⟩
    rw [if_neg (fun h => t2 h.2)] at hgv
    refine wp_region_quiet_below (by kernel_rfl) (by kernel_rfl) ?_
    repeat (go_big_quiet_step (fail))
    refine wpQuiet_nil ?_
    intro v hb'
    have hb := below_of_regrown hb'
    have y0 := cell_up hb x0
    have y1 := cell_up hb x1
    have y2 := cell_up hb x2
    have y4 := cell_up hb z4
    have y5 := cell_up hb z5
    replace kx := At.bel kx hb
    replace HB := below_then HB hb
    clear hb' hb K0 K4 x0 x1 x2 z4 z5
    cases hp : s.poured
    rotate_left
    · rw [hp] at y5 hgv
      have hE : Hid (R = (13, s)) := Lib.hid (by
        rw [if_pos rfl] at hgv
        have := hR.out
        rw [← hgv] at this
        exact this.symm)
      clear hgv hp
      go_wp2_with fail
      go_ret
      exact ⟨by rw [hE.out]; rfl, by rw [hE.out]; exact SDone.same hs0.out HB⟩
    rw [hp] at y5 hgv
    rw [if_neg (by decide)] at hgv
    have hgv' := Lib.hid hgv
    clear hgv hp
    go_wp2_with fail
    refine (HA.out _ HB).mono ?_
    rintro e w2 ⟨rfl, hd⟩
    clear HA
    obtain ⟨r1, hr1⟩ : ∃ r1, (actS s ⟨xd, xk, xn⟩).1 = r1 := ⟨_, rfl⟩
    rw [hr1]
    by_cases hr0 : r1 = 0
    rotate_left
    · have hE : Hid (R = (r1, s)) := Lib.hid (by
        have := hR.out
        rw [← hgv'.out, if_neg (by decide), if_pos (by rw [hr1]; exact hr0), hr1] at this
        exact this.symm)
      have hS : Hid (SDone w w2 g s p) := Lib.hid (by
        rw [actS_fail s ⟨xd, xk, xn⟩ (by rw [hr1]; exact hr0)] at hd
        exact SDone.then (Frm.of_below HB) (fun _ h => .inl h) hd)
      have hr2 : (r1 != 0) = true := by simpa using hr0
      clear hd hr1 hr0 y0 y1 y2 y4 y5
      go_wp2_with fail
      go_ret
      exact ⟨by rw [hE.out]; rfl, by rw [hE.out]; exact hS.out⟩
    · subst hr0
      obtain ⟨s1, hs1e⟩ : ∃ s1, (actS s ⟨xd, xk, xn⟩).2 = s1 := ⟨_, rfl⟩
      have hk1 := actS_kept s ⟨xd, xk, xn⟩
      rw [hs1e] at hk1 hd
      have hE : Hid (R = (0, { s1 with kept := s1.kept ++ [⟨xd, xk, xn⟩] })) := Lib.hid (by
        have := hR.out
        rw [← hgv'.out, if_neg (by decide), if_neg (by rw [hr1]; decide), hs1e] at this
        exact this.symm)
      obtain ⟨p1, hs1, hf1, hm1⟩ := hd
      have kx2 : At w2 w.heap.size 58 #[.int .i64 xd, .int .i64 xk, .string xn] := (hf1.block _ kx.lt (fun h => by have := hs0.out.lt h; omega)).trans kx
      clear y0 y1 y2 y4 y5 kx
      obtain ⟨x0, x1, x2⟩ := kx2.three
      obtain ⟨a1, cap1, hve1, hl1, -, -, -⟩ := hs1.ents.view encE_len
      obtain ⟨nn, hnn⟩ : ∃ nn, s1.kept.length = nn := ⟨_, rfl⟩
      have hnn1 : nn ≤ 999 := by rw [← hnn, hk1, hn]; omega
      have ho : Hid (w2.ownsRow 0 58 3 (.slice a1 nn cap1) nn (s1.kept.flatMap encE)) := Lib.hid (by rw [← hnn, ← hve1]; exact hs1.ents)
      rw [hnn] at hve1 hl1
      have z4 : w2.cell? ⟨g, 4, none⟩ = some (.slice a1 nn cap1) := by
        have := hs1.own.c 4
        rw [hve1] at this
        exact this
      have Lg := hs1.own.lt
      have hS : Hid (∀ (w5 : World) (v' : Value), w5.ownsRow 0 58 3 v' (nn + 1) (s1.kept.flatMap encE ++ [.int .i64 xd, .int .i64 xk, .string xn]) → w2.grownBy w5 (Value.slice a1 nn cap1).ownBlock → (v'.ownBlock = (Value.slice a1 nn cap1).ownBlock ∨ v'.ownBlock = some (w2.heap.size + 1)) → At w5 g 84 #[p1.vt, p1.vw, .string s1.member, p1.vo, p1.ve, .bool s1.poured, .map p1.om] ∧ SDone w (w5.setCell ⟨g, 4, none⟩ v') g { s1 with kept := s1.kept ++ [⟨xd, xk, xn⟩] } p) := Lib.hid (fun w5 v' ho5 hg5 hloc => by
        rw [← hve1] at hg5 hloc
        obtain ⟨q1, q2⟩ := hs1.pushK ⟨xd, xk, xn⟩ (by rw [hnn]; exact ho5) hg5 hloc (Nat.le_succ _)
        exact ⟨q1, SDone.then ((Frm.of_below HB).trans hf1 (fun x h => .inl h)) (fun b hb => (hm1 b hb).imp id (Nat.le_trans HB.size)) q2⟩)
      clear hve1 hnn hs1 hs1e hk1 hr1 hf1 hm1 hn
      go_upto_region 13 with fail
      go_region_law (refine step_append_lies _ rfl (.tmp 55) (.tmp 57) 82 rfl 0 58 i0 (.agg #[.int .i64 0, .int .i64 0, .string ⟨#[]⟩]) 3 32 Tryd.underlying82 hi hz0 hz1 hz2 rfl (by decide) (.slice a1 nn cap1) nn (s1.kept.flatMap encE) (by simp [Act.eval]) (by first | exact World.ownsRow.alloc (World.ownsRow.drew ho.out) _ | exact World.ownsRow.drew (World.ownsRow.alloc ho.out _)) ⟨w2.heap.size, 0, none⟩ 1 1 [.int .i64 xd, .int .i64 xk, .string xn] (by simp [Act.eval]) rfl (three_new (by first | exact At.new _ _ _ | exact At.drw (At.new _ _ _))) (by intro u hu; simp at hu; rcases hu with rfl | rfl | rfl <;> rfl) (by decide) (by unfold maxLen; omega) (by omega) (by simp) (w2.heap.size + 1) (by simp) ?_; intro g5 c5 w5 ho5 hg5 hloc hlt5; have hg6 := grown_after (w := w2) (by first | exact below_drew (below_al (Below.refl _ _) _) | exact below_al (below_drew (Below.refl _ _)) _) hg5; obtain ⟨hat5, hS5⟩ := hS.out w5 _ ho5 hg6 (hloc.imp (fun h => h.symm) (fun h => congrArg some h)); have f4 := hat5.f 4; have y4 : w5.cell? ⟨g, 4, none⟩ = some p1.ve := hat5.c 4; replace hS5 := Lib.hid hS5; clear ho5 hg5 hg6 hat5 hloc hlt5)
      all_goals (go_wp2_with fail; go_ret; exact ⟨by rw [hE.out]; rfl, by rw [hE.out]; exact hS5.out⟩)
  · have n00 : n = 0 := by omega
    subst n00
    rw [if_neg (fun h => n0 h.1)] at hgv
    refine wp_region_quiet_below (by kernel_rfl) (by kernel_rfl) ?_
    repeat (go_big_quiet_step (fail))
    refine wpQuiet_nil ?_
    intro v hb'
    have hb := below_of_regrown hb'
    have y0 := cell_up hb x0
    have y1 := cell_up hb x1
    have y2 := cell_up hb x2
    have y4 := cell_up hb z4
    have y5 := cell_up hb z5
    replace kx := At.bel kx hb
    replace HB := below_then HB hb
    clear hb' hb K0 K4 x0 x1 x2 z4 z5
    cases hp : s.poured
    rotate_left
    · rw [hp] at y5 hgv
      have hE : Hid (R = (13, s)) := Lib.hid (by
        rw [if_pos rfl] at hgv
        have := hR.out
        rw [← hgv] at this
        exact this.symm)
      clear hgv hp
      go_wp2_with fail
      go_ret
      exact ⟨by rw [hE.out]; rfl, by rw [hE.out]; exact SDone.same hs0.out HB⟩
    rw [hp] at y5 hgv
    rw [if_neg (by decide)] at hgv
    have hgv' := Lib.hid hgv
    clear hgv hp
    go_wp2_with fail
    refine (HA.out _ HB).mono ?_
    rintro e w2 ⟨rfl, hd⟩
    clear HA
    obtain ⟨r1, hr1⟩ : ∃ r1, (actS s ⟨xd, xk, xn⟩).1 = r1 := ⟨_, rfl⟩
    rw [hr1]
    by_cases hr0 : r1 = 0
    rotate_left
    · have hE : Hid (R = (r1, s)) := Lib.hid (by
        have := hR.out
        rw [← hgv'.out, if_neg (by decide), if_pos (by rw [hr1]; exact hr0), hr1] at this
        exact this.symm)
      have hS : Hid (SDone w w2 g s p) := Lib.hid (by
        rw [actS_fail s ⟨xd, xk, xn⟩ (by rw [hr1]; exact hr0)] at hd
        exact SDone.then (Frm.of_below HB) (fun _ h => .inl h) hd)
      have hr2 : (r1 != 0) = true := by simpa using hr0
      clear hd hr1 hr0 y0 y1 y2 y4 y5
      go_wp2_with fail
      go_ret
      exact ⟨by rw [hE.out]; rfl, by rw [hE.out]; exact hS.out⟩
    · subst hr0
      obtain ⟨s1, hs1e⟩ : ∃ s1, (actS s ⟨xd, xk, xn⟩).2 = s1 := ⟨_, rfl⟩
      have hk1 := actS_kept s ⟨xd, xk, xn⟩
      rw [hs1e] at hk1 hd
      have hE : Hid (R = (0, { s1 with kept := s1.kept ++ [⟨xd, xk, xn⟩] })) := Lib.hid (by
        have := hR.out
        rw [← hgv'.out, if_neg (by decide), if_neg (by rw [hr1]; decide), hs1e] at this
        exact this.symm)
      obtain ⟨p1, hs1, hf1, hm1⟩ := hd
      have kx2 : At w2 w.heap.size 58 #[.int .i64 xd, .int .i64 xk, .string xn] := (hf1.block _ kx.lt (fun h => by have := hs0.out.lt h; omega)).trans kx
      clear y0 y1 y2 y4 y5 kx
      obtain ⟨x0, x1, x2⟩ := kx2.three
      obtain ⟨a1, cap1, hve1, hl1, -, -, -⟩ := hs1.ents.view encE_len
      obtain ⟨nn, hnn⟩ : ∃ nn, s1.kept.length = nn := ⟨_, rfl⟩
      have hnn1 : nn ≤ 999 := by rw [← hnn, hk1, hn]; omega
      have ho : Hid (w2.ownsRow 0 58 3 (.slice a1 nn cap1) nn (s1.kept.flatMap encE)) := Lib.hid (by rw [← hnn, ← hve1]; exact hs1.ents)
      rw [hnn] at hve1 hl1
      have z4 : w2.cell? ⟨g, 4, none⟩ = some (.slice a1 nn cap1) := by
        have := hs1.own.c 4
        rw [hve1] at this
        exact this
      have Lg := hs1.own.lt
      have hS : Hid (∀ (w5 : World) (v' : Value), w5.ownsRow 0 58 3 v' (nn + 1) (s1.kept.flatMap encE ++ [.int .i64 xd, .int .i64 xk, .string xn]) → w2.grownBy w5 (Value.slice a1 nn cap1).ownBlock → (v'.ownBlock = (Value.slice a1 nn cap1).ownBlock ∨ v'.ownBlock = some (w2.heap.size + 1)) → At w5 g 84 #[p1.vt, p1.vw, .string s1.member, p1.vo, p1.ve, .bool s1.poured, .map p1.om] ∧ SDone w (w5.setCell ⟨g, 4, none⟩ v') g { s1 with kept := s1.kept ++ [⟨xd, xk, xn⟩] } p) := Lib.hid (fun w5 v' ho5 hg5 hloc => by
        rw [← hve1] at hg5 hloc
        obtain ⟨q1, q2⟩ := hs1.pushK ⟨xd, xk, xn⟩ (by rw [hnn]; exact ho5) hg5 hloc (Nat.le_succ _)
        exact ⟨q1, SDone.then ((Frm.of_below HB).trans hf1 (fun x h => .inl h)) (fun b hb => (hm1 b hb).imp id (Nat.le_trans HB.size)) q2⟩)
      clear hve1 hnn hs1 hs1e hk1 hr1 hf1 hm1 hn
      go_upto_region 13 with fail
      go_region_law (refine step_append_lies _ rfl (.tmp 55) (.tmp 57) 82 rfl 0 58 i0 (.agg #[.int .i64 0, .int .i64 0, .string ⟨#[]⟩]) 3 32 Tryd.underlying82 hi hz0 hz1 hz2 rfl (by decide) (.slice a1 nn cap1) nn (s1.kept.flatMap encE) (by simp [Act.eval]) (by first | exact World.ownsRow.alloc (World.ownsRow.drew ho.out) _ | exact World.ownsRow.drew (World.ownsRow.alloc ho.out _)) ⟨w2.heap.size, 0, none⟩ 1 1 [.int .i64 xd, .int .i64 xk, .string xn] (by simp [Act.eval]) rfl (three_new (by first | exact At.new _ _ _ | exact At.drw (At.new _ _ _))) (by intro u hu; simp at hu; rcases hu with rfl | rfl | rfl <;> rfl) (by decide) (by unfold maxLen; omega) (by omega) (by simp) (w2.heap.size + 1) (by simp) ?_; intro g5 c5 w5 ho5 hg5 hloc hlt5; have hg6 := grown_after (w := w2) (by first | exact below_drew (below_al (Below.refl _ _) _) | exact below_al (below_drew (Below.refl _ _)) _) hg5; obtain ⟨hat5, hS5⟩ := hS.out w5 _ ho5 hg6 (hloc.imp (fun h => h.symm) (fun h => congrArg some h)); have f4 := hat5.f 4; have y4 : w5.cell? ⟨g, 4, none⟩ = some p1.ve := hat5.c 4; replace hS5 := Lib.hid hS5; clear ho5 hg5 hg6 hat5 hloc hlt5)
      all_goals (go_wp2_with fail; go_ret; exact ⟨by rw [hE.out]; rfl, by rw [hE.out]; exact hS5.out⟩)
end Go.Proofs.YtjlkbmaigcgnbaaDoor
set_option linter.unusedVariables false
namespace Go.Proofs.YtjlkbmaigcgnbaaDoor
open Go.ChangeShapes Go.WideShapes Go.ChangeAt Go.RowKit
structure RDjs (g : Nat) (p : RV) : Prop where
  g1 : Dj (some g) p.vl.ownBlock
  g2 : Dj (some g) p.va.ownBlock
  g3 : Dj (some g) p.vc.ownBlock
  g4 : Dj (some g) p.vk.ownBlock
  l2 : Dj p.vl.ownBlock p.va.ownBlock
  l3 : Dj p.vl.ownBlock p.vc.ownBlock
  l4 : Dj p.vl.ownBlock p.vk.ownBlock
  a3 : Dj p.va.ownBlock p.vc.ownBlock
  a4 : Dj p.va.ownBlock p.vk.ownBlock
  c4 : Dj p.vc.ownBlock p.vk.ownBlock
theorem RDjs.iff {g : Nat} {p : RV} : (p.fp g).Pairwise Dj ↔ RDjs g p := by
  simp only [RV.fp, List.pairwise_cons, List.mem_cons, List.not_mem_nil, or_false, forall_eq_or_imp, forall_eq, List.Pairwise.nil, and_true]
  constructor
  · rintro ⟨⟨g1, g2, g3, g4⟩, ⟨l2, l3, l4⟩, ⟨a3, a4⟩, c4, -⟩
    exact ⟨g1, g2, g3, g4, l2, l3, l4, a3, a4, c4⟩
  · rintro ⟨g1, g2, g3, g4, l2, l3, l4, a3, a4, c4⟩
    exact ⟨⟨g1, g2, g3, g4⟩, ⟨l2, l3, l4⟩, ⟨a3, a4⟩, c4, fun _ h => h.elim⟩
end Go.Proofs.YtjlkbmaigcgnbaaDoor
set_option linter.unusedVariables false
namespace Go.Proofs.YtjlkbmaigcgnbaaDoor
open Go.ChangeShapes Go.WideShapes Go.ChangeAt Go.RowKit
def withK (s : St) (x : Ent) : St := { s with kept := s.kept ++ [x] }
end Go.Proofs.YtjlkbmaigcgnbaaDoor
set_option linter.unusedVariables false
namespace Go.Proofs.YtjlkbmaigcgnbaaDoor
open Go.ChangeShapes Go.WideShapes Go.ChangeAt Go.RowKit
end Go.Proofs.YtjlkbmaigcgnbaaDoor
set_option linter.unusedVariables false
namespace Go.Proofs.YtjlkbmaigcgnbaaDoor
open Go.ChangeShapes Go.WideShapes Go.ChangeAt Go.RowKit
end Go.Proofs.YtjlkbmaigcgnbaaDoor
set_option linter.unusedVariables false
namespace Go.Proofs.YtjlkbmaigcgnbaaDoor
open Go.ChangeShapes Go.WideShapes Go.ChangeAt Go.RowKit
theorem given_lt {s : St} {x : Ent} (h : givenS s x = 0) : s.kept.length ≤ 999 ∧ logV [x] = true := by
  unfold givenS at h
  cases hl : logV [x]
  · rw [if_pos hl] at h; cases h
  · rw [if_neg (by rw [hl]; decide)] at h
    by_cases h1 : 1000 ≤ s.kept.length
    · rw [if_pos h1] at h; cases h
    · exact ⟨by omega, rfl⟩
theorem actS_ok (s : St) (hok : s.ok) (x : Ent) (hz : x.name.size ≤ 60) (hlt : s.kept.length ≤ 999) (h0 : (actS s x).1 = 0) : (withK (actS s x).2 x).ok := by
  have base : ∀ (a : List Nat) (o : List ByteArray) (b : Bool), a.length = s.tags.length → (∀ y ∈ a, y ≤ 2) → o.length ≤ s.kept.length + 1 → (∀ y ∈ o, y.size ≤ 60) → (withK { s with at_ := a, open_ := o, poured := b } x).ok := fun a o b h1 h2 h3 h4 =>
    ⟨hok.nodup, h1, h2, hok.tagsN, by show (s.kept ++ [x]).length ≤ 1000; simp; omega, by show o.length ≤ (s.kept ++ [x]).length; simp; omega, hok.tagsZ, h4, by
      show ∀ y ∈ s.kept ++ [x], y.name.size ≤ 60
      intro y hy
      rcases List.mem_append.1 hy with h | h
      · exact hok.keptZ y h
      · rw [List.mem_singleton.1 h]; exact hz⟩
  have mv : ∀ a b : Nat, b ≤ 2 → (moveS s x.name a b).1 = 0 → (withK (moveS s x.name a b).2 x).ok := fun a b hb h => by
    unfold moveS at h ⊢
    split
    · rename_i q; rw [if_pos q] at h; cases h
    · rename_i q
      rw [if_neg q] at h
      split
      · rename_i q2; rw [if_pos q2] at h; cases h
      · refine base _ s.open_ s.poured (by rw [List.length_set]; exact hok.len) ?_ (by have := hok.openN; omega) hok.openZ
        intro y hy
        rcases List.mem_or_eq_of_mem_set hy with h | h
        · exact hok.le y h
        · omega
  unfold actS at h0 ⊢
  split
  · rename_i q; rw [if_pos q] at h0; exact mv 0 1 (by decide) h0
  rename_i q; rw [if_neg q] at h0
  split
  · rename_i q; rw [if_pos q] at h0; exact mv 1 2 (by decide) h0
  rename_i q; rw [if_neg q] at h0
  split
  · rename_i q; rw [if_pos q] at h0; exact mv 1 0 (by decide) h0
  rename_i q; rw [if_neg q] at h0
  split
  · rename_i q; rw [if_pos q] at h0
    unfold checkS at h0 ⊢
    split
    · rename_i q2; rw [if_pos q2] at h0; cases h0
    · refine base s.at_ _ s.poured hok.len hok.le (by rw [List.length_append]; have := hok.openN; simp; omega) ?_
      intro y hy
      rcases List.mem_append.1 hy with h | h
      · exact hok.openZ y h
      · rw [List.mem_singleton.1 h]; exact hz
  rename_i q; rw [if_neg q] at h0
  split
  · rename_i q; rw [if_pos q] at h0
    unfold doneS at h0 ⊢
    split
    · rename_i q2; rw [if_pos q2] at h0; cases h0
    · refine base s.at_ _ s.poured hok.len hok.le (by have := hok.openN; have := List.length_eraseIdx_le s.open_ (ix s.open_ x.name); omega) ?_
      intro y hy
      exact hok.openZ y (List.mem_of_mem_eraseIdx hy)
  rename_i q; rw [if_neg q] at h0
  unfold pourS at h0 ⊢
  split
  · rename_i q2; rw [if_pos q2] at h0; cases h0
  · rename_i q2
    rw [if_neg q2] at h0
    split
    · rename_i q3; rw [if_pos q3] at h0; cases h0
    · exact base s.at_ s.open_ true hok.len hok.le (by have := hok.openN; omega) hok.openZ
theorem doS_ok (s : St) (hok : s.ok) (x : Ent) (hz : x.name.size ≤ 60) : (doS s x).2.ok := by
  unfold doS
  by_cases h1 : givenS s x = 0
  · rw [if_neg (by simpa using h1)]
    by_cases h2 : (actS s x).1 = 0
    · rw [if_neg (by simpa using h2)]
      exact actS_ok s hok x hz (given_lt h1).1 h2
    · rw [if_pos h2]
      exact hok
  · rw [if_pos h1]
    exact hok
end Go.Proofs.YtjlkbmaigcgnbaaDoor
