/- site: move, check, done, pour. -/
import Derived.Test.YtpocmijfkjjboaaGreatDoorSiN
import Derived.Test.YtpocmijfkjjboaaGreatDoorShelf
set_option linter.unusedVariables false
namespace Go.Proofs.YtpocmijfkjjboaaGreatDoor
open Go.ChangeShapes Go.WideShapes Go.ChangeAt Go.RowKit

structure Djs (g : Nat) (p : SV) : Prop where
  g1 : Dj (some g) p.vt.ownBlock
  g2 : Dj (some g) p.vw.ownBlock
  g3 : Dj (some g) p.vo.ownBlock
  g4 : Dj (some g) p.ve.ownBlock
  g5 : Dj (some g) p.om
  t2 : Dj p.vt.ownBlock p.vw.ownBlock
  t3 : Dj p.vt.ownBlock p.vo.ownBlock
  t4 : Dj p.vt.ownBlock p.ve.ownBlock
  t5 : Dj p.vt.ownBlock p.om
  w3 : Dj p.vw.ownBlock p.vo.ownBlock
  w4 : Dj p.vw.ownBlock p.ve.ownBlock
  w5 : Dj p.vw.ownBlock p.om
  o4 : Dj p.vo.ownBlock p.ve.ownBlock
  o5 : Dj p.vo.ownBlock p.om
  e5 : Dj p.ve.ownBlock p.om
theorem Djs.iff {g : Nat} {p : SV} : (p.fp g).Pairwise Dj ↔ Djs g p := by
  simp only [SV.fp, List.pairwise_cons, List.mem_cons, List.not_mem_nil, or_false, forall_eq_or_imp, forall_eq, List.Pairwise.nil, and_true]
  constructor
  · rintro ⟨⟨g1, g2, g3, g4, g5⟩, ⟨t2, t3, t4, t5⟩, ⟨w3, w4, w5⟩, ⟨o4, o5⟩, e5, -⟩
    exact ⟨g1, g2, g3, g4, g5, t2, t3, t4, t5, w3, w4, w5, o4, o5, e5⟩
  · rintro ⟨g1, g2, g3, g4, g5, t2, t3, t4, t5, w3, w4, w5, o4, o5, e5⟩
    exact ⟨⟨g1, g2, g3, g4, g5⟩, ⟨t2, t3, t4, t5⟩, ⟨w3, w4, w5⟩, ⟨o4, o5⟩, e5, fun _ h => h.elim⟩
theorem Dj.no {a o : Option Nat} (h : Dj a o) {b : Nat} (hb : a = some b) : some b ≠ o := fun e => h b hb e.symm
/-- A step that turned the site's own cells and at most one of its rows, in place or into a new block n. -/
theorem SiteW.remake {w w' : World} {g : Nat} {s : St} {p : SV} (h : SiteW w g s p) (s' : St) (p' : SV) (n : Nat) (hn : w.heap.size ≤ n)
    (hown : At w' g 71 #[p'.vt, p'.vw, .string s'.member, p'.vo, p'.ve, .bool s'.poured, .map p'.om]) (hvt : p'.vt = p.vt) (hst : s'.tags = s.tags) (hom : p'.om = p.om)
    (hkt : ∀ b, p.vt.ownBlock = some b → w'.heap[b]? = w.heap[b]?) (hkm : ∀ b, p.om = some b → w'.heap[b]? = w.heap[b]?)
    (hw : Row w' 3 1 encN p'.vw s'.at_) (hww : p'.vw.ownBlock = p.vw.ownBlock)
    (ho : Row w' 9 1 encS p'.vo s'.open_) (hoo : p'.vo.ownBlock = p.vo.ownBlock ∨ p'.vo.ownBlock = some n)
    (he : Row w' 39 3 encE p'.ve s'.kept) (hee : p'.ve.ownBlock = p.ve.ownBlock ∨ p'.ve.ownBlock = some n)
    (hone : p'.vo.ownBlock = p.vo.ownBlock ∨ p'.ve.ownBlock = p.ve.ownBlock) (hf : Frm (p.fp g) w w') : SDone w w' g s' p := by
  have d := Djs.iff.1 h.sep
  have lg : ∀ x, (some g : Option Nat) = some x → x < n := fun x e => by injection e with e; have := h.own.lt; omega
  have lt : ∀ x, p.vt.ownBlock = some x → x < n := fun x e => by have := h.tags.lt e; omega
  have lw : ∀ x, p.vw.ownBlock = some x → x < n := fun x e => by have := h.wher.lt e; omega
  have lo : ∀ x, p.vo.ownBlock = some x → x < n := fun x e => by have := h.opn.lt e; omega
  have le : ∀ x, p.ve.ownBlock = some x → x < n := fun x e => by have := h.ents.lt e; omega
  have lm : ∀ x, p.om = some x → x < n := fun x e => by have := (h.idx x e).lt; omega
  refine ⟨p', ⟨hown, ?_, hw, ho, he, ?_, ?_⟩, hf, ?_⟩
  · rw [hvt, hst]
    exact h.tags.keep hkt
  · intro m e
    rw [hom] at e
    rw [hst]
    exact (h.idx m e).same (hkm m e)
  · rw [Djs.iff]
    refine ⟨hvt ▸ d.g1, hww ▸ d.g2, d.g3.up lg hoo, d.g4.up lg hee, hom ▸ d.g5, ?_, ?_, ?_, ?_, ?_, ?_, ?_, ?_, ?_, ?_⟩
    · rw [hvt, hww]; exact d.t2
    · rw [hvt]; exact d.t3.up lt hoo
    · rw [hvt]; exact d.t4.up lt hee
    · rw [hvt, hom]; exact d.t5
    · rw [hww]; exact d.w3.up lw hoo
    · rw [hww]; exact d.w4.up lw hee
    · rw [hww, hom]; exact d.w5
    · rcases hone with q | q
      · rw [q]; exact d.o4.up lo hee
      · rw [q]; exact (d.o4.symm.up le hoo).symm
    · rw [hom]; exact (d.o5.symm.up lm hoo).symm
    · rw [hom]; exact (d.e5.symm.up lm hee).symm
  · intro b hb
    simp only [SV.fp, List.mem_cons, List.not_mem_nil, or_false] at hb ⊢
    rcases hb with q | q | q | q | q | q
    · exact .inl (.inl q)
    · exact .inl (.inr (.inl (by rw [q, hvt])))
    · exact .inl (.inr (.inr (.inl (by rw [q, hww]))))
    · rcases hoo with e | e
      · exact .inl (.inr (.inr (.inr (.inl (by rw [q, e])))))
      · rw [e] at q
        injection q with q
        exact .inr (by omega)
    · rcases hee with e | e
      · exact .inl (.inr (.inr (.inr (.inr (.inl (by rw [q, e]))))))
      · rw [e] at q
        injection q with q
        exact .inr (by omega)
    · exact .inl (.inr (.inr (.inr (.inr (.inr (by rw [q, hom]))))))
theorem flat_set (l : List Nat) (k x : Nat) (hk : k < l.length) : (l.set k x).flatMap encN = (l.flatMap encN).set k (.int .i64 (x : Int)) := by
  have e : ∀ m : List Nat, m.flatMap encN = m.map (fun n : Nat => Value.int .i64 (n : Int)) := fun m => by
    induction m with
    | nil => rfl
    | cons a m ih => rw [List.flatMap_cons, ih]; rfl
  rw [e, e, List.map_set]
theorem Row.set {w : World} {e : TypeId} {gw n cap : Nat} {l : List Nat} (h : Row w e 1 encN (.slice (some ⟨gw, 0, none⟩) n cap) l) (k x : Nat) (hk : k < l.length) : Row (w.setCell ⟨gw, k, none⟩ (.int .i64 (x : Int))) e 1 encN (.slice (some ⟨gw, 0, none⟩) n cap) (l.set k x) := by
  obtain ⟨hl, ⟨h1, h2⟩ | ⟨g, cap', cur, h1, h2, h3, h4, h5, h6, h7⟩⟩ := h
  · cases h1
  · simp only [Value.slice.injEq, Option.some.injEq, Addr.mk.injEq, and_true] at h1
    obtain ⟨rfl, rfl, rfl⟩ := h1
    unfold Row
    rw [flat_set l k x hk, List.length_set]
    refine ⟨by rw [List.length_set, hl], .inr ⟨gw, cap, cur.setIfInBounds k (.int .i64 (x : Int)), rfl, Nat.zero_le _, ?_, h4, h5, by simp [h6], ?_⟩⟩
    · simp [World.setCell, Array.getElem?_modify, h3]
    · rw [← h7, Array.toList_setIfInBounds, List.take_set]
theorem Row.blk {α : Type} {w : World} {e : TypeId} {sz : Nat} {enc : α → List Value} {v : Value} {l : List α} (h : Row w e sz enc v l) (hl : 0 < l.length) : ∃ gw cap, v = .slice (some ⟨gw, 0, none⟩) l.length cap ∧ l.length ≤ cap ∧ w.frozen? ⟨gw, 0, none⟩ = false ∧ ∀ i, w.frozen? ⟨gw, i, none⟩ = false := by
  obtain ⟨_, ⟨h1, h2⟩ | ⟨g, cap, cur, h1, h2, h3, h4, h5, h6, h7⟩⟩ := h
  · omega
  · exact ⟨g, cap, h1, h4, by simp [World.frozen?, h3], fun i => by simp [World.frozen?, h3]⟩

set_option maxRecDepth 100000 in
set_option maxHeartbeats 1000000 in
theorem move_any (s : St) (hok : s.ok) (name : ByteArray) (ht : name.size ≤ 60) (a b : Nat) (g : Nat) (p : SV) (w : World) (hs : SiteW w g s p) :
    Calls Tryz.prog 55 #[.pointer (some ⟨g, 0, none⟩), .string name, .int .i64 (a : Int), .int .i64 (b : Int)] w fun e w' => e = .returned (.int .i64 (moveS s name a b).1) ∧ SDone w w' g (moveS s name a b).2 p := by
  have HF := Lib.hid (find_any s hok name ht g p w hs)
  obtain ⟨R, hR⟩ : ∃ R, moveS s name a b = R := ⟨_, rfl⟩
  rw [hR]
  unfold moveS at hR
  clear hs
  go_enter Tryz.func55, Tryz.ntmps55
  go_wp2_with fail
  refine (HF.out).mono ?_
  rintro e w1 ⟨⟨i, rfl, hi⟩, p1, hs1, hf1, hm1⟩
  clear HF
  have hsame : Hid (SDone w w1 g s p) := Lib.hid ⟨p1, hs1, hf1, hm1⟩
  cases hb : inB name s.tags
  · rw [hb] at hR
    have hE : Hid (R = (9, s)) := Lib.hid hR.symm
    clear hR hi hs1
    go_wp2_with fail
    go_ret
    exact ⟨by rw [hE.out]; rfl, by rw [hE.out]; exact hsame.out⟩
  · rw [hb] at hR
    obtain rfl := hi hb
    obtain ⟨k, hk⟩ : ∃ k, ix s.tags name = k := ⟨_, rfl⟩
    have hkl : k < s.at_.length := by rw [hok.len, ← hk]; exact ix_mem (inB_iff.1 hb)
    rw [hk] at hR ⊢
    rw [if_neg (by decide)] at hR
    have hgd : s.at_.getD k 0 = s.at_[k] := by simp [List.getD, hkl]
    rw [hgd] at hR
    obtain ⟨gw, cw, hvw, hlc, -, hfz⟩ := hs1.wher.blk (by omega)
    have z1 : w1.cell? ⟨g, 1, none⟩ = some (.slice (some ⟨gw, 0, none⟩) s.at_.length cw) := by
      have := hs1.own.c 1
      rw [hvw] at this
      exact this
    obtain ⟨b', off', e', d0, hlt⟩ := ((show Row w1 _ 1 encN (.slice (some ⟨gw, 0, none⟩) s.at_.length cw) s.at_ from hvw ▸ hs1.wher).at encN_len).one (f := fun n : Nat => Value.int .i64 (n : Int)) k hkl
    simp only [Option.some.injEq, Addr.mk.injEq, and_true] at e'
    obtain ⟨rfl, rfl⟩ := e'
    have fz := hfz k
    rw [Nat.zero_add] at d0
    obtain ⟨y, hy⟩ : ∃ y, s.at_[k] = y := ⟨_, rfl⟩
    rw [hy] at d0 hR
    have hn1 : s.at_.length ≤ 1000 := by have := hok.len; have := hok.tagsN; omega
    obtain ⟨n, hn⟩ : ∃ n, s.at_.length = n := ⟨_, rfl⟩
    rw [hn] at z1 hn1 hlc
    have hkn : k < n := by omega
    have hkl' := Lib.hid hkl
    have hvw' := Lib.hid hvw
    have hs1' := Lib.hid hs1
    clear hs1 hfz hvw hkl hgd hy hk hi
    by_cases hya : y = a
    · rw [if_neg (by simpa using hya)] at hR
      have hE : Hid (R = (0, { s with at_ := s.at_.set k b })) := Lib.hid hR.symm
      subst hya
      have hS : Hid (SDone w (w1.setCell ⟨gw, k, none⟩ (.int .i64 (b : Int))) g { s with at_ := s.at_.set k b } p) := Lib.hid (by
        have d := Djs.iff.1 hs1'.out.sep
        have hbk : p1.vw.ownBlock = some gw := by rw [hvw'.out]; rfl
        have kp : ∀ o : Option Nat, Dj o p1.vw.ownBlock → ∀ x, o = some x → (w1.setCell ⟨gw, k, none⟩ (.int .i64 (b : Int))).heap[x]? = w1.heap[x]? := fun o hd x e => Below.heap_setCell _ _ _ _ (fun hx => hd x e (by rw [hbk]; rw [hx]))
        refine SDone.then hf1 hm1 (hs1'.out.remake _ p1 w1.heap.size (Nat.le_refl _) ((kp _ d.g2 g rfl).trans hs1'.out.own) rfl rfl rfl (kp _ d.t2) (kp _ d.w5.symm) ?_ rfl (hs1'.out.opn.keep (kp _ d.w3.symm)) (.inl rfl) (hs1'.out.ents.keep (kp _ d.w4.symm)) (.inl rfl) (.inl rfl) ?_)
        · have := (show Row w1 3 1 encN (.slice (some ⟨gw, 0, none⟩) s.at_.length cw) s.at_ from hvw'.out ▸ hs1'.out.wher).set k b hkl'.out
          rw [← hvw'.out] at this
          exact this
        · exact Frm.of_set (by simp [SV.fp, hbk]) _)
      clear hR hsame
      go_wp2_with fail
      go_ret
      exact ⟨by rw [hE.out]; rfl, by rw [hE.out]; exact hS.out⟩
    · rw [if_pos (by simpa using hya)] at hR
      have hE : Hid (R = (13, s)) := Lib.hid hR.symm
      have h3 : ((y : Int) != (a : Int)) = true := by simp; omega
      clear hR hya
      go_wp2_with fail
      go_ret
      exact ⟨by rw [hE.out]; rfl, by rw [hE.out]; exact hsame.out⟩

set_option maxRecDepth 100000 in
set_option maxHeartbeats 1000000 in
theorem pour_any (s : St) (hok : s.ok) (name : ByteArray) (g : Nat) (p : SV) (w : World) (hs : SiteW w g s p) :
    Calls Tryz.prog 58 #[.pointer (some ⟨g, 0, none⟩), .string name] w fun e w' => e = .returned (.int .i64 (pourS s name).1) ∧ SDone w w' g (pourS s name).2 p := by
  have HR := Lib.hid (ready_any s hok g p w hs)
  obtain ⟨R, hR⟩ : ∃ R, pourS s name = R := ⟨_, rfl⟩
  rw [hR]
  unfold pourS at hR
  have z2 : w.cell? ⟨g, 2, none⟩ = some (.string s.member) := hs.own.c 2
  obtain ⟨rd, hrd⟩ : ∃ rd, readyS s = rd := ⟨_, rfl⟩
  rw [hrd] at hR
  rw [hrd] at HR
  replace hs := Lib.hid hs
  clear hrd hok
  by_cases he : name = s.member
  · have es := str_eq he
    rw [if_neg (by simpa using he)] at hR
    clear he
    go_enter Tryz.func58, Tryz.ntmps58
    go_wp2_with fail
    refine (HR.out).mono ?_
    rintro e w1 ⟨rfl, HB⟩
    have hs1 := Lib.hid (hs.out.bel HB)
    cases rd
    · have hE : Hid (R = (24, s)) := Lib.hid (by rw [if_pos rfl] at hR; exact hR.symm)
      clear hR
      go_wp2_with fail
      go_ret
      exact ⟨by rw [hE.out]; rfl, by rw [hE.out]; exact SDone.same hs.out HB⟩
    · have hE : Hid (R = (0, { s with poured := true })) := Lib.hid (by rw [if_neg (by decide)] at hR; exact hR.symm)
      have z5 : w1.cell? ⟨g, 5, none⟩ = some (.bool s.poured) := hs1.out.own.c 5
      have f5 := hs1.out.own.f 5
      have hS : Hid (SDone w (w1.setCell ⟨g, 5, none⟩ (.bool true)) g { s with poured := true } p) := Lib.hid (by
        have d := Djs.iff.1 hs1.out.sep
        have kp : ∀ o : Option Nat, Dj (some g) o → ∀ x, o = some x → (w1.setCell ⟨g, 5, none⟩ (.bool true)).heap[x]? = w1.heap[x]? := fun o hd x e => Below.heap_setCell _ _ _ _ (fun hx => hd x (by rw [hx]) e)
        refine SDone.then (Frm.of_below HB) (fun _ h => .inl h) (hs1.out.remake _ p w1.heap.size (Nat.le_refl _) (by simpa using hs1.out.own.put 5 (.bool true)) rfl rfl rfl (kp _ d.g1) (kp _ d.g5) (hs1.out.wher.keep (kp _ d.g2)) rfl (hs1.out.opn.keep (kp _ d.g3)) (.inl rfl) (hs1.out.ents.keep (kp _ d.g4)) (.inl rfl) (.inl rfl) (Frm.of_set (by simp [SV.fp]) _)))
      clear hR
      go_wp2_with fail
      go_ret
      exact ⟨by rw [hE.out]; rfl, by rw [hE.out]; exact hS.out⟩
  · have es := str_ne he
    have hE : Hid (R = (9, s)) := Lib.hid (by rw [if_pos he] at hR; exact hR.symm)
    clear hR he
    go_enter Tryz.func58, Tryz.ntmps58
    go_wp2_with fail
    go_ret
    exact ⟨by rw [hE.out]; rfl, by rw [hE.out]; exact SDone.same hs.out (Below.refl _ _)⟩

end Go.Proofs.YtpocmijfkjjboaaGreatDoor
