/- site: check, done. site: act. -/
import Derived.Test.YtjlkbmaigcgnbaaDoorBJ09
import Derived.Test.YtjlkbmaigcgnbaaDoorBJ08
import Derived.Maps.AppendAt
import Derived.Sort.OwnSorted
import Derived.Lib.SlicesS
set_option linter.unusedVariables false
namespace Go.Proofs.YtjlkbmaigcgnbaaDoor
open Go.ChangeShapes Go.WideShapes Go.ChangeAt Go.RowKit
theorem getD_ne {l : List ByteArray} {x : ByteArray} (h : ¬ x ∈ l) (j : Nat) (hj : j < l.length) : l.getD j ByteArray.empty ≠ x := fun e => h (by
  rw [List.getD, List.getElem?_eq_getElem hj] at e
  exact e ▸ List.getElem_mem hj)
theorem idxOf_ixI (l : List ByteArray) (x : ByteArray) : Lib.idxOfS (l.take l.length) x = ixI l x := by
  by_cases h : x ∈ l
  · have hk := ix_mem h
    unfold ixI
    rw [if_pos hk]
    refine Lib.idxOfS_hit l l.length (ix l x) x hk (Nat.le_refl _) ?_ ?_
    · rw [List.getD, List.getElem?_eq_getElem hk]
      have := List.findIdx_getElem (p := fun y => decide (y = x)) (xs := l) (w := hk)
      exact of_decide_eq_true this
    · intro j hj e
      have hjl : j < l.length := by omega
      rw [List.getD, List.getElem?_eq_getElem hjl] at e
      have := List.not_of_lt_findIdx (p := fun y => decide (y = x)) (xs := l) hj
      exact absurd e (of_decide_eq_false this)
  · have h1 : ix l x = l.length := ix_none (fun j hj e => h (e ▸ List.getElem_mem hj))
    unfold ixI
    rw [h1, if_neg (by omega)]
    exact Lib.idxOfS_miss l l.length x (fun j hj => getD_ne h j hj)
theorem index_any (l : List ByteArray) (ao : Option Addr) (cap : Nat) (hl : l.length ≤ 1000000) (x : ByteArray) (B : Nat) (w : World) (r : RowAt encS 1 B w ao l) :
    Calls Tryd.prog 71 #[.slice ao l.length cap, .string x] w fun e w' => e = .returned (.int .i64 (ixI l x)) ∧ w = w' := by
  by_cases h0 : l.length = 0
  · obtain rfl := List.length_eq_zero_iff.1 h0
    exact (Tryd.slices_Index_string_empty ao cap x w).mono fun e w' h => ⟨h.1, h.2.symm⟩
  · obtain ⟨b, off, rfl, _⟩ := r 0 (by omega)
    refine (Tryd.slices_Index_string b off l.length cap l x w (Nat.le_refl _) (by omega) (getD_str r)).mono fun e w' h => ⟨?_, h.2.symm⟩
    rw [h.1, idxOf_ixI]
theorem contains_any (l : List ByteArray) (ao : Option Addr) (cap : Nat) (hl : l.length ≤ 1000000) (x : ByteArray) (B : Nat) (w : World) (r : RowAt encS 1 B w ao l) :
    Calls Tryd.prog 70 #[.slice ao l.length cap, .string x] w fun e w' => e = .returned (.bool (inB x l)) ∧ w = w' := by
  by_cases h0 : l.length = 0
  · obtain rfl := List.length_eq_zero_iff.1 h0
    exact (Tryd.slices_Contains_string_empty ao cap x w).mono fun e w' h => ⟨h.1, h.2.symm⟩
  · obtain ⟨b, off, rfl, _⟩ := r 0 (by omega)
    refine (Tryd.slices_Contains_string b off l.length cap l x w (Nat.le_refl _) (by omega) (getD_str r)).mono fun e w' h => ⟨?_, h.2.symm⟩
    rw [h.1, List.take_length]
    congr 2
    rw [Bool.eq_iff_iff, Lib.containsS_iff, inB_iff]
theorem encStr_by (x : ByteArray) : encStr (by_ x) = .string x := by
  show Value.string ⟨(by_ x).toArray⟩ = _
  rw [Lib.mk_data]
theorem flat_map (l : List ByteArray) : l.flatMap encS = (l.map by_).map encStr := by
  induction l with
  | nil => rfl
  | cons a l ih => rw [List.flatMap_cons, ih, List.map_cons, List.map_cons, encStr_by]; rfl
theorem delete_any (l : List ByteArray) (g cap k : Nat) (hk : k < l.length) (w : World) (hR : Row w 9 1 encS (.slice (some ⟨g, 0, none⟩) l.length cap) l) :
    Calls Tryd.prog 72 #[.slice (some ⟨g, 0, none⟩) l.length cap, .int .i64 (k : Int), .int .i64 ((k : Int) + 1)] w fun e w' => e = .returned (.slice (some ⟨g, 0, none⟩) (l.length - 1) cap) ∧ Row w' 9 1 encS (.slice (some ⟨g, 0, none⟩) (l.length - 1) cap) (l.eraseIdx k) ∧ w.grownBy w' (some g) := by
  obtain ⟨hl, ⟨h1, h2⟩ | ⟨g', cap', cur, h1, h2, h3, h4, h5, h6, h7⟩⟩ := hR
  · cases h1
  · simp only [Value.slice.injEq, Option.some.injEq, Addr.mk.injEq, and_true] at h1
    obtain ⟨rfl, -, rfl⟩ := h1
    have hzl : (l.map by_).length = l.length := List.length_map ..
    have hH : Go.Sort.Holds encStr w g 0 (l.map by_).toArray := by
      intro j hj
      have hj' : j < l.length := by simpa using hj
      refine ⟨?_, by simp [World.frozen?, h3]⟩
      rw [cell_of_row w g (0 + j) cur 9 (0, 0) h3, Nat.zero_add]
      have h8 : (cur.toList.take (l.length * 1))[j]? = some (encStr (by_ l[j])) := by
        rw [h7, flat_map, List.getElem?_map, List.getElem?_map, List.getElem?_eq_getElem hj']
        rfl
      rw [List.getElem?_take_of_lt (by omega)] at h8
      rw [show (l.map by_).toArray[j]! = by_ l[j] by rw [getElem!_pos _ j (by simpa using hj')]; simp]
      simpa using h8
    have := Tryd.slices_Delete_string g 0 cap k (k + 1) (l.map by_) w hH (by rw [hzl]; exact h4) (by have : cap ≤ 2 ^ 63 - 1 := h5; omega) (by omega) (by rw [hzl]; omega)
    rw [hzl, Int.natCast_add] at this
    refine this.mono ?_
    rintro e w' ⟨rfl, q, rfl⟩
    have hsub : k + 1 - k = 1 := by omega
    rw [hsub]
    obtain ⟨ts, hts⟩ : ∃ ts, (l.map by_).take k ++ (l.map by_).drop (k + 1) ++ List.replicate 1 [] = ts := ⟨_, rfl⟩
    have htl : ts.length = l.length := by rw [← hts]; simp; omega
    rw [hts]
    have her : (l.eraseIdx k).length = l.length - 1 := by rw [List.length_eraseIdx, if_pos hk]
    have hgr := Go.grownBy_sorted (w := w) (g := g) (n := q) (os := #[]) ts.toArray
    rw [Go.Sort.grow_empty] at hgr
    refine ⟨rfl, ⟨by rw [flat_len encS_len], .inr ⟨g, cap, Go.Sort.putCells encStr 0 ts.toArray cur, by rw [her], Nat.zero_le _, ?_, by rw [her]; omega, h5, by simp [Go.Sort.putCells, h6], ?_⟩⟩, hgr⟩
    · simp [Go.Sort.putRow, Go.Sort.mapBlock, Go.Sort.ahead, Array.getElem?_modify, h3, Go.Sort.onCells]
    · have h8 := Go.take_putCells cur ts (by rw [htl, h6]; omega)
      rw [her, Nat.mul_one, show l.length - 1 = min (l.length - 1) ts.length by omega, ← List.take_take, h8, ← hts, flat_map, ← List.map_take]
      congr 1
      rw [List.take_append_of_le_length (by simp; omega), List.take_of_length_le (by simp; omega), List.eraseIdx_eq_take_drop_succ, List.map_append, List.map_take, List.map_drop]
set_option maxRecDepth 100000 in
set_option maxHeartbeats 1000000 in
theorem done_any (s : St) (hok : s.ok) (name : ByteArray) (g : Nat) (p : SV) (w : World) (hs : SiteW w g s p) :
    Calls Tryd.prog 56 #[.pointer (some ⟨g, 0, none⟩), .string name] w fun e w' => e = .returned (.int .i64 (doneS s name).1) ∧ SDone w w' g (doneS s name).2 p := by
  obtain ⟨R, hR⟩ : ∃ R, doneS s name = R := ⟨_, rfl⟩
  rw [hR]
  unfold doneS at hR
  obtain ⟨ao, cap, hvo, hlc, -, hrow, -⟩ := hs.opn.view encS_len
  have hn1 : s.open_.length ≤ 1000 := by have := hok.openN; have := hok.keptN; omega
  have HX := Lib.hid (index_any s.open_ ao cap (by omega) name _ w hrow)
  have z3 : w.cell? ⟨g, 3, none⟩ = some (.slice ao s.open_.length cap) := by
    have := hs.own.c 3
    rw [hvo] at this
    exact this
  cases hb : inB name s.open_
  · rw [hb, if_pos rfl] at hR
    have hE : Hid (R = (9, s)) := Lib.hid hR.symm
    have hx : ixI s.open_ name = -1 := by
      unfold ixI
      rw [if_neg]
      intro h
      unfold ix at h
      rw [List.findIdx_lt_length] at h
      obtain ⟨y, hy, hy2⟩ := h
      have : name ∈ s.open_ := of_decide_eq_true hy2 ▸ hy
      rw [inB_iff.2 this] at hb
      cases hb
    rw [hx] at HX
    have hS := Lib.hid (SDone.same hs (Below.refl w.heap.size w))
    generalize s.open_.length = n at *
    clear hR hrow hx hb hs hvo
    go_enter Tryd.func56, Tryd.ntmps56
    go_wp2_with fail
    refine (HX.out).mono ?_
    rintro e w1 ⟨rfl, rfl⟩
    go_wp2_with fail
    go_ret
    exact ⟨by rw [hE.out]; rfl, by rw [hE.out]; exact hS.out⟩
  · rw [hb, if_neg (by decide)] at hR
    have hk := ix_mem (inB_iff.1 hb)
    have hx : ixI s.open_ name = (ix s.open_ name : Int) := by unfold ixI; rw [if_pos hk]
    rw [hx] at HX
    obtain ⟨gw, cw, hvw, hl2, -, hfz⟩ := hs.opn.blk (by omega)
    rw [hvo] at hvw
    simp only [Value.slice.injEq, true_and] at hvw
    obtain ⟨rfl, rfl⟩ := hvw
    have hdel := delete_any s.open_ gw cap (ix s.open_ name) hk w (by rw [← hvo]; exact hs.opn)
    obtain ⟨k, hkk⟩ : ∃ k, ix s.open_ name = k := ⟨_, rfl⟩
    rw [hkk] at hdel HX hR hk
    have HD := Lib.hid hdel
    have hE : Hid (R = (0, { s with open_ := s.open_.eraseIdx k })) := Lib.hid hR.symm
    have Lg := hs.own.lt
    have hS : Hid (∀ w1, Row w1 9 1 encS (.slice (some ⟨gw, 0, none⟩) (s.open_.length - 1) cap) (s.open_.eraseIdx k) → w.grownBy w1 (some gw) → (At w1 g 84 #[p.vt, p.vw, .string s.member, p.vo, p.ve, .bool s.poured, .map p.om]) ∧ SDone w (w1.setCell ⟨g, 3, none⟩ (.slice (some ⟨gw, 0, none⟩) (s.open_.length - 1) cap)) g { s with open_ := s.open_.eraseIdx k } p) := Lib.hid (fun w1 hr1 hg1 => by
      have d := Djs.iff.1 hs.sep
      have hbk : p.vo.ownBlock = some gw := by rw [hvo]; rfl
      have hgg : g ≠ gw := fun e => d.g3 g rfl (by rw [hbk, e])
      have hat1 : At w1 g 84 #[p.vt, p.vw, .string s.member, p.vo, p.ve, .bool s.poured, .map p.om] := (hg1.block g hs.own.lt (fun e => by injection e with e; exact hgg e)).trans hs.own
      refine ⟨hat1, ?_⟩
      have kp : ∀ o : Option Nat, Dj (some g) o → Dj o p.vo.ownBlock → (∀ x, o = some x → x < w.heap.size) → ∀ x, o = some x → (w1.setCell ⟨g, 3, none⟩ (.slice (some ⟨gw, 0, none⟩) (s.open_.length - 1) cap)).heap[x]? = w.heap[x]? := fun o h1 h2 h3 x e => (Below.heap_setCell _ _ _ _ (fun hx => h1 x (by rw [hx]) e)).trans (hg1.block x (h3 x e) (fun e2 => by injection e2 with e2; exact h2 x e (by rw [hbk, e2])))
      refine hs.remake _ ⟨p.vt, p.vw, .slice (some ⟨gw, 0, none⟩) (s.open_.length - 1) cap, p.ve, p.om⟩ w.heap.size (Nat.le_refl _) (by simpa using hat1.put 3 (.slice (some ⟨gw, 0, none⟩) (s.open_.length - 1) cap)) rfl rfl rfl (kp _ d.g1 d.t3 fun x e => hs.tags.lt e) (kp _ d.g5 d.o5.symm fun x e => (hs.idx x e).lt) (hs.wher.keep (kp _ d.g2 d.w3 fun x e => hs.wher.lt e)) rfl (hr1.keep fun x e => Below.heap_setCell _ _ _ _ (fun hx => by
        have e : some gw = some x := e
        injection e with e
        exact hgg (by rw [e]; exact hx.symm))) (.inl (by rw [hbk]; rfl)) (hs.ents.keep (kp _ d.g4 d.o4.symm fun x e => hs.ents.lt e)) (.inl rfl) (.inr rfl) ?_
      refine Frm.trans (F' := p.fp g) (Frm.of_grown hg1 (.inl (by simp [SV.fp, hbk]))) (Frm.of_set (by simp [SV.fp]) _) (fun x h => .inl h))
    obtain ⟨n, hn⟩ : ∃ n, s.open_.length = n := ⟨_, rfl⟩
    rw [hn] at HX HD hn1 hk hlc z3
    simp only [hn] at hS
    clear hR hx hfz hrow hb hdel hvo hl2 hkk hs
    go_enter Tryd.func56, Tryd.ntmps56
    go_wp2_with fail
    refine (HX.out).mono ?_
    rintro e w1 ⟨rfl, rfl⟩
    go_wp2_with fail
    refine (HD.out).mono ?_
    rintro e w1 ⟨rfl, hr1, hg1⟩
    obtain ⟨hat1, hS1⟩ := hS.out w1 hr1 hg1
    have f3 := hat1.f 3
    have y3 : w1.cell? ⟨g, 3, none⟩ = some p.vo := hat1.c 3
    replace hS1 := Lib.hid hS1
    clear hS HX HD hr1 hg1 hat1
    go_wp2_with fail
    go_ret
    exact ⟨by rw [hE.out]; rfl, by rw [hE.out]; exact hS1.out⟩
set_option maxRecDepth 100000 in
set_option maxHeartbeats 1000000 in
theorem check_any (s : St) (hok : s.ok) (name : ByteArray) (g : Nat) (p : SV) (w : World) (hs : SiteW w g s p) :
    Calls Tryd.prog 55 #[.pointer (some ⟨g, 0, none⟩), .string name] w fun e w' => e = .returned (.int .i64 (checkS s name).1) ∧ SDone w w' g (checkS s name).2 p := by
  obtain ⟨i0, hi, hz0, hz1, hz2⟩ := info_parts infoStr
  obtain ⟨R, hR⟩ : ∃ R, checkS s name = R := ⟨_, rfl⟩
  rw [hR]
  unfold checkS at hR
  obtain ⟨ao, cap, hvo, hlc, -, hrow, -⟩ := hs.opn.view encS_len
  have hn1 : s.open_.length ≤ 1000 := by have := hok.openN; have := hok.keptN; omega
  have HX := Lib.hid (contains_any s.open_ ao cap (by omega) name _ w hrow)
  have z3 : w.cell? ⟨g, 3, none⟩ = some (.slice ao s.open_.length cap) := by
    have := hs.own.c 3
    rw [hvo] at this
    exact this
  cases hb : inB name s.open_
  rotate_left
  · rw [hb, if_pos rfl] at hR
    rw [hb] at HX
    have hE : Hid (R = (15, s)) := Lib.hid hR.symm
    have hS : Hid (SDone w w g s p) := Lib.hid (SDone.same hs (Below.refl _ _))
    generalize s.open_.length = n at *
    clear hR hrow hb hs hvo
    go_enter Tryd.func55, Tryd.ntmps55
    go_wp2_with fail
    refine (HX.out).mono ?_
    rintro e w1 ⟨rfl, rfl⟩
    go_wp2_with fail
    go_ret
    exact ⟨by rw [hE.out]; rfl, by rw [hE.out]; exact hS.out⟩
  · rw [hb, if_neg (by decide)] at hR
    rw [hb] at HX
    have hE : Hid (R = (0, { s with open_ := s.open_ ++ [name] })) := Lib.hid hR.symm
    have ho : Hid (w.ownsRow 0 9 1 (.slice ao s.open_.length cap) s.open_.length (s.open_.flatMap encS)) := Lib.hid (by rw [← hvo]; exact hs.opn)
    have Lg := hs.own.lt
    have hS : Hid (∀ v' w1, w1.ownsRow 0 9 1 v' (s.open_.length + 1) (s.open_.flatMap encS ++ [.string name]) → (w.alloc (.cells #[.string name] 9)).grownBy w1 p.vo.ownBlock → (v'.ownBlock = p.vo.ownBlock ∨ v'.ownBlock = some (w.heap.size + 1)) → (At w1 g 84 #[p.vt, p.vw, .string s.member, p.vo, p.ve, .bool s.poured, .map p.om]) ∧ SDone w (w1.setCell ⟨g, 3, none⟩ v') g { s with open_ := s.open_ ++ [name] } p) := Lib.hid (fun v' w1 ho1 hg1 hloc => by
      have d := Djs.iff.1 hs.sep
      have hga : w.grownBy w1 p.vo.ownBlock := (World.grownBy_alloc _ _ _).trans hg1
      have hat1 : At w1 g 84 #[p.vt, p.vw, .string s.member, p.vo, p.ve, .bool s.poured, .map p.om] := (hga.block g hs.own.lt (fun e => d.g3 g rfl e.symm)).trans hs.own
      refine ⟨hat1, ?_⟩
      have kp : ∀ o : Option Nat, Dj (some g) o → Dj o p.vo.ownBlock → (∀ x, o = some x → x < w.heap.size) → ∀ x, o = some x → (w1.setCell ⟨g, 3, none⟩ v').heap[x]? = w.heap[x]? := fun o h1 h2 h3 x e => (Below.heap_setCell _ _ _ _ (fun hx => h1 x (by rw [hx]) e)).trans (hga.block x (h3 x e) (fun e2 => h2 x e e2.symm))
      have hrow1 : Row w1 9 1 encS v' (s.open_ ++ [name]) := by
        unfold Row
        rw [List.length_append, List.flatMap_append]
        exact ho1
      refine hs.remake _ ⟨p.vt, p.vw, v', p.ve, p.om⟩ (w.heap.size + 1) (Nat.le_succ _) (by simpa using hat1.put 3 v') rfl rfl rfl (kp _ d.g1 d.t3 fun x e => hs.tags.lt e) (kp _ d.g5 d.o5.symm fun x e => (hs.idx x e).lt) (hs.wher.keep (kp _ d.g2 d.w3 fun x e => hs.wher.lt e)) rfl (hrow1.keep fun x e => Below.heap_setCell _ _ _ _ (fun hx => by
        have hx : x = g := hx
        rcases hloc with q | q
        · exact d.g3 g rfl (by rw [← q, e, hx])
        · rw [q] at e
          injection e with e
          have := hs.own.lt
          omega)) hloc (hs.ents.keep (kp _ d.g4 d.o4.symm fun x e => hs.ents.lt e)) (.inl rfl) (.inr rfl) ?_
      exact Frm.trans (F' := p.fp g) (Frm.of_grown hga (.inl (by simp [SV.fp]))) (Frm.of_set (by simp [SV.fp]) _) (fun x h => .inl h))
    obtain ⟨n, hn⟩ : ∃ n, s.open_.length = n := ⟨_, rfl⟩
    rw [hn] at HX hn1 hlc z3 ho hvo
    simp only [hn] at hS
    have hob : Hid ((Value.slice ao n cap).ownBlock = p.vo.ownBlock) := Lib.hid (by rw [hvo])
    clear hR hrow hb hs hvo
    go_enter Tryd.func55, Tryd.ntmps55
    go_wp2_with fail
    refine (HX.out).mono ?_
    rintro e w1 ⟨rfl, rfl⟩
    go_wp2_with (at_builtin; refine wpList_append_own_at _ rfl _ _ 81 rfl 0 9 i0 (.string ⟨#[]⟩) 1 16 Tryd.underlying81 hi hz0 hz1 hz2 rfl (by decide) _ _ _ rfl (World.ownsRow.alloc ho.out _) ⟨w.heap.size, 0, none⟩ 1 1 [.string name] rfl rfl (cell_one_new _ _ _) (by intro u hu; simp at hu; subst hu; rfl) (by have := hn1; unfold maxLen; omega) (by have := hn1; omega) (by simp) ?_)
    intro v' w1 ho1 hg1 hnil hloc
    rw [hob.out] at hg1 hloc
    obtain ⟨hat1, hS1⟩ := hS.out v' w1 ho1 hg1 hloc
    obtain ⟨a', c', rfl⟩ := own_slice ho1
    have f3 := hat1.f 3
    have y3 : w1.cell? ⟨g, 3, none⟩ = some p.vo := hat1.c 3
    replace hS1 := Lib.hid hS1
    clear hS HX ho1 hg1 hat1 hnil hloc
    go_wp2_with fail
    go_ret
    exact ⟨by rw [hE.out]; rfl, by rw [hE.out]; exact hS1.out⟩
end Go.Proofs.YtjlkbmaigcgnbaaDoor
set_option linter.unusedVariables false
namespace Go.Proofs.YtjlkbmaigcgnbaaDoor
open Go.ChangeShapes Go.WideShapes Go.ChangeAt Go.RowKit
set_option maxRecDepth 100000 in
theorem act_1 (xd xk : Int) (xn : ByteArray) (hk : xk = 1) (g : Nat) (r : Int) (D : World → Prop) (w : World)
    (H : Hid (∀ u, Below w.heap.size w u → Calls Tryd.prog 54 #[.pointer (some ⟨g, 0, none⟩), .string xn, .int .i64 0, .int .i64 1] u fun e w' => e = .returned (.int .i64 r) ∧ D w')) :
    Calls Tryd.prog 35 #[.pointer (some ⟨g, 0, none⟩), .agg #[.int .i64 xd, .int .i64 xk, .string xn]] w fun e w' => e = .returned (.int .i64 r) ∧ D w' := by
  subst hk
  go_enter Tryd.func35, Tryd.ntmps35
  go_wp2_with fail
  refine (H.out _ (by repeat (first | with_reducible assumption | with_reducible exact Below.refl _ _ | with_reducible refine below_al ?_ _ | with_reducible refine below_drew ?_ | with_reducible refine below_drewN ?_ _ | with_reducible refine below_set ?_ (by dsimp only; omega) _))).mono ?_
  rintro e w1 ⟨rfl, hd⟩
  go_wp2_with fail
  go_ret
  exact ⟨rfl, hd⟩
set_option maxRecDepth 100000 in
theorem act_2 (xd xk : Int) (xn : ByteArray) (hk : xk = 2) (g : Nat) (r : Int) (D : World → Prop) (w : World)
    (H : Hid (∀ u, Below w.heap.size w u → Calls Tryd.prog 54 #[.pointer (some ⟨g, 0, none⟩), .string xn, .int .i64 1, .int .i64 2] u fun e w' => e = .returned (.int .i64 r) ∧ D w')) :
    Calls Tryd.prog 35 #[.pointer (some ⟨g, 0, none⟩), .agg #[.int .i64 xd, .int .i64 xk, .string xn]] w fun e w' => e = .returned (.int .i64 r) ∧ D w' := by
  subst hk
  go_enter Tryd.func35, Tryd.ntmps35
  go_wp2_with fail
  refine (H.out _ (by repeat (first | with_reducible assumption | with_reducible exact Below.refl _ _ | with_reducible refine below_al ?_ _ | with_reducible refine below_drew ?_ | with_reducible refine below_drewN ?_ _ | with_reducible refine below_set ?_ (by dsimp only; omega) _))).mono ?_
  rintro e w1 ⟨rfl, hd⟩
  go_wp2_with fail
  go_ret
  exact ⟨rfl, hd⟩
set_option maxRecDepth 100000 in
theorem act_6 (xd xk : Int) (xn : ByteArray) (hk : xk = 6) (g : Nat) (r : Int) (D : World → Prop) (w : World)
    (H : Hid (∀ u, Below w.heap.size w u → Calls Tryd.prog 54 #[.pointer (some ⟨g, 0, none⟩), .string xn, .int .i64 1, .int .i64 0] u fun e w' => e = .returned (.int .i64 r) ∧ D w')) :
    Calls Tryd.prog 35 #[.pointer (some ⟨g, 0, none⟩), .agg #[.int .i64 xd, .int .i64 xk, .string xn]] w fun e w' => e = .returned (.int .i64 r) ∧ D w' := by
  subst hk
  go_enter Tryd.func35, Tryd.ntmps35
  go_wp2_with fail
  refine (H.out _ (by repeat (first | with_reducible assumption | with_reducible exact Below.refl _ _ | with_reducible refine below_al ?_ _ | with_reducible refine below_drew ?_ | with_reducible refine below_drewN ?_ _ | with_reducible refine below_set ?_ (by dsimp only; omega) _))).mono ?_
  rintro e w1 ⟨rfl, hd⟩
  go_wp2_with fail
  go_ret
  exact ⟨rfl, hd⟩
set_option maxRecDepth 100000 in
theorem act_3 (xd xk : Int) (xn : ByteArray) (hk : xk = 3) (g : Nat) (r : Int) (D : World → Prop) (w : World)
    (H : Hid (∀ u, Below w.heap.size w u → Calls Tryd.prog 55 #[.pointer (some ⟨g, 0, none⟩), .string xn] u fun e w' => e = .returned (.int .i64 r) ∧ D w')) :
    Calls Tryd.prog 35 #[.pointer (some ⟨g, 0, none⟩), .agg #[.int .i64 xd, .int .i64 xk, .string xn]] w fun e w' => e = .returned (.int .i64 r) ∧ D w' := by
  subst hk
  go_enter Tryd.func35, Tryd.ntmps35
  go_wp2_with fail
  refine (H.out _ (by repeat (first | with_reducible assumption | with_reducible exact Below.refl _ _ | with_reducible refine below_al ?_ _ | with_reducible refine below_drew ?_ | with_reducible refine below_drewN ?_ _ | with_reducible refine below_set ?_ (by dsimp only; omega) _))).mono ?_
  rintro e w1 ⟨rfl, hd⟩
  go_wp2_with fail
  go_ret
  exact ⟨rfl, hd⟩
set_option maxRecDepth 100000 in
theorem act_4 (xd xk : Int) (xn : ByteArray) (hk : xk = 4) (g : Nat) (r : Int) (D : World → Prop) (w : World)
    (H : Hid (∀ u, Below w.heap.size w u → Calls Tryd.prog 56 #[.pointer (some ⟨g, 0, none⟩), .string xn] u fun e w' => e = .returned (.int .i64 r) ∧ D w')) :
    Calls Tryd.prog 35 #[.pointer (some ⟨g, 0, none⟩), .agg #[.int .i64 xd, .int .i64 xk, .string xn]] w fun e w' => e = .returned (.int .i64 r) ∧ D w' := by
  subst hk
  go_enter Tryd.func35, Tryd.ntmps35
  go_wp2_with fail
  refine (H.out _ (by repeat (first | with_reducible assumption | with_reducible exact Below.refl _ _ | with_reducible refine below_al ?_ _ | with_reducible refine below_drew ?_ | with_reducible refine below_drewN ?_ _ | with_reducible refine below_set ?_ (by dsimp only; omega) _))).mono ?_
  rintro e w1 ⟨rfl, hd⟩
  go_wp2_with fail
  go_ret
  exact ⟨rfl, hd⟩
set_option maxRecDepth 100000 in
theorem act_5 (xd xk : Int) (xn : ByteArray) (hk : ¬ xk = 1 ∧ ¬ xk = 2 ∧ ¬ xk = 6 ∧ ¬ xk = 3 ∧ ¬ xk = 4) (g : Nat) (r : Int) (D : World → Prop) (w : World)
    (H : Hid (∀ u, Below w.heap.size w u → Calls Tryd.prog 57 #[.pointer (some ⟨g, 0, none⟩), .string xn] u fun e w' => e = .returned (.int .i64 r) ∧ D w')) :
    Calls Tryd.prog 35 #[.pointer (some ⟨g, 0, none⟩), .agg #[.int .i64 xd, .int .i64 xk, .string xn]] w fun e w' => e = .returned (.int .i64 r) ∧ D w' := by
  obtain ⟨n1, n2, n6, n3, n4⟩ := hk
  have e1 : (xk == 1) = false := by simpa using n1
  have e2 : (xk == 2) = false := by simpa using n2
  have e6 : (xk == 6) = false := by simpa using n6
  have e3 : (xk == 3) = false := by simpa using n3
  have e4 : (xk == 4) = false := by simpa using n4
  clear n1 n2 n3 n4 n6
  go_enter Tryd.func35, Tryd.ntmps35
  go_wp2_with fail
  refine (H.out _ (by repeat (first | with_reducible assumption | with_reducible exact Below.refl _ _ | with_reducible refine below_al ?_ _ | with_reducible refine below_drew ?_ | with_reducible refine below_drewN ?_ _ | with_reducible refine below_set ?_ (by dsimp only; omega) _))).mono ?_
  rintro e w1 ⟨rfl, hd⟩
  go_wp2_with fail
  go_ret
  exact ⟨rfl, hd⟩
theorem act_any (s : St) (hok : s.ok) (xd xk : Int) (xn : ByteArray) (hz : xn.size ≤ 60) (g : Nat) (p : SV) (w : World) (hs : SiteW w g s p) :
    Calls Tryd.prog 35 #[.pointer (some ⟨g, 0, none⟩), .agg #[.int .i64 xd, .int .i64 xk, .string xn]] w fun e w' => e = .returned (.int .i64 (actS s ⟨xd, xk, xn⟩).1) ∧ SDone w w' g (actS s ⟨xd, xk, xn⟩).2 p := by
  unfold actS
  dsimp only
  by_cases h1 : xk = 1
  · rw [if_pos h1]
    exact act_1 xd xk xn h1 g _ _ w (Lib.hid fun u hb => (move_any s hok xn hz 0 1 g p u (hs.bel hb)).mono fun e w' h => ⟨h.1, SDone.then (Frm.of_below hb) (fun _ h => .inl h) h.2⟩)
  rw [if_neg h1]
  by_cases h2 : xk = 2
  · rw [if_pos h2]
    exact act_2 xd xk xn h2 g _ _ w (Lib.hid fun u hb => (move_any s hok xn hz 1 2 g p u (hs.bel hb)).mono fun e w' h => ⟨h.1, SDone.then (Frm.of_below hb) (fun _ h => .inl h) h.2⟩)
  rw [if_neg h2]
  by_cases h6 : xk = 6
  · rw [if_pos h6]
    exact act_6 xd xk xn h6 g _ _ w (Lib.hid fun u hb => (move_any s hok xn hz 1 0 g p u (hs.bel hb)).mono fun e w' h => ⟨h.1, SDone.then (Frm.of_below hb) (fun _ h => .inl h) h.2⟩)
  rw [if_neg h6]
  by_cases h3 : xk = 3
  · rw [if_pos h3]
    exact act_3 xd xk xn h3 g _ _ w (Lib.hid fun u hb => (check_any s hok xn g p u (hs.bel hb)).mono fun e w' h => ⟨h.1, SDone.then (Frm.of_below hb) (fun _ h => .inl h) h.2⟩)
  rw [if_neg h3]
  by_cases h4 : xk = 4
  · rw [if_pos h4]
    exact act_4 xd xk xn h4 g _ _ w (Lib.hid fun u hb => (done_any s hok xn g p u (hs.bel hb)).mono fun e w' h => ⟨h.1, SDone.then (Frm.of_below hb) (fun _ h => .inl h) h.2⟩)
  rw [if_neg h4]
  exact act_5 xd xk xn ⟨h1, h2, h6, h3, h4⟩ g _ _ w (Lib.hid fun u hb => (pour_any s hok xn g p u (hs.bel hb)).mono fun e w' h => ⟨h.1, SDone.then (Frm.of_below hb) (fun _ h => .inl h) h.2⟩)
end Go.Proofs.YtjlkbmaigcgnbaaDoor
