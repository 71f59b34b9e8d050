/- site: find. site: move, check, done, pour. -/
import Derived.Test.YtjlkbmaigcgnbaaDoorBJ08
import Derived.Lib.SliceRun
set_option linter.unusedVariables false
namespace Go.Proofs.YtjlkbmaigcgnbaaDoor
open Go.ChangeShapes Go.WideShapes Go.ChangeAt Go.RowKit Go.Maps Go.ChangeMaps Go.WideMaps
theorem eqIn_map {w : World} (fuel : Nat) (t k e : TypeId) (a : Option Nat) (h : Tryd.prog.underlying t = some (.map k e)) : (Op.equalIn (fuel + 1) t (.map a) (.map none)).run Tryd.prog w = .ok a.isNone w := by
  cases a <;> simp [Op.equalIn, run_underlying h]
theorem eql_map (w : World) (a : Option Nat) : (binOp .eql 65 (.map a) (.map none)).run Tryd.prog w = .ok (.bool a.isNone) w := by
  simp only [binOp]
  simp [Op.equal, Op.maxDepth, eqIn_map 9999 65 _ _ a Tryd.underlying65]
theorem ix_mem {ts : List ByteArray} {x : ByteArray} (h : x ∈ ts) : ix ts x < ts.length := by
  unfold ix
  rw [List.findIdx_lt_length]
  exact ⟨x, h, by simp⟩
theorem not_in_take {ts : List ByteArray} (h : ts.Nodup) {k : Nat} (hk : k < ts.length) : ¬ ts[k] ∈ ts.take k := fun hm => by
  rw [List.mem_take_iff_getElem] at hm
  obtain ⟨j, hj, e⟩ := hm
  have := (List.getElem_inj h).1 e
  omega
def FindPost (s : St) (tag : ByteArray) (g : Nat) (p : SV) (w : World) (e : Ending) (w' : World) : Prop :=
  (∃ i : Int, e = .returned (.tuple #[.int .i64 i, .bool (inB tag s.tags)]) ∧ (inB tag s.tags = true → i = (ix s.tags tag : Int))) ∧ SDone w w' g s p
set_option maxRecDepth 100000 in
set_option maxHeartbeats 1000000 in
theorem find_some (s : St) (hok : s.ok) (tag : ByteArray) (ht : tag.size ≤ 60) (g m : Nat) (p : SV) (hp : p.om = some m) (w : World) (hs : SiteW w g s p) :
    Calls Tryd.prog 69 #[.pointer (some ⟨g, 0, none⟩), .string tag] w fun e w' => FindPost s tag g p w e w' := by
  obtain ⟨v, hlook, hv⟩ := (hs.idx m hp).look tag (by unfold maxLen; omega)
  have hS := Lib.hid (SDone.same hs (Below.refl _ _))
  obtain ⟨b, hb⟩ : ∃ b, inB tag s.tags = b := ⟨_, rfl⟩
  replace hv : b = true → v = (ix s.tags tag : Int) := fun h => hv (inB_iff.1 (hb.trans h))
  rw [hb] at hlook
  have z6 : w.cell? ⟨g, 6, none⟩ = some (.map (some m)) := by
    have := hs.own.c 6
    rw [hp] at this
    exact this
  replace hv := Lib.hid hv
  replace hb := Lib.hid hb
  clear hs hok hp
  have qmap := eql_map
  go_enter Tryd.func69, Tryd.ntmps69
  go_wp2_with fail
  exact bodyPost_ret (v := .tuple #[.int .i64 v, .bool b]) (by simp [results, Tryd.results69, go_sem]) rfl ⟨⟨v, by rw [hb.out], by rw [hb.out]; exact hv.out⟩, hS.out⟩
theorem SiteW.indexed {w w' : World} {g m : Nat} {s : St} {p : SV} (h : SiteW w g s p) (hm : m = w.heap.size) (hown : At w' g 84 #[p.vt, p.vw, .string s.member, p.vo, p.ve, .bool s.poured, .map (some m)]) (hidx : IdxAt w' m s.tags.length s.tags) (hf : Frm [some g] w w') : SDone w w' g s p := by
  have hsep := h.sep
  simp only [SV.fp, List.pairwise_cons, List.mem_cons, List.not_mem_nil, or_false, forall_eq_or_imp, forall_eq, List.Pairwise.nil, and_true] at hsep
  obtain ⟨⟨g1, g2, g3, g4, g5⟩, ⟨t2, t3, t4, t5⟩, ⟨w3, w4, w5⟩, ⟨o4, o5⟩, e5, -⟩ := hsep
  have kp : ∀ b, b < w.heap.size → Dj (some g) (some b) → w'.heap[b]? = w.heap[b]? := fun b hb hd => hf.block b hb (fun hm => by
    simp only [List.mem_cons, List.not_mem_nil, or_false] at hm
    exact hd b hm.symm rfl)
  have fresh : ∀ o : Option Nat, (∀ b, o = some b → b < w.heap.size) → Dj o (some m) := fun o ho x h1 h2 => by
    have := ho x h1
    injection h2 with h2
    omega
  have dj : ∀ {o : Option Nat} {b : Nat}, Dj (some g) o → o = some b → Dj (some g) (some b) := fun h e => e ▸ h
  refine ⟨⟨p.vt, p.vw, p.vo, p.ve, some m⟩, ⟨hown, h.tags.keep fun b e => kp b (h.tags.lt e) (dj g1 e), h.wher.keep fun b e => kp b (h.wher.lt e) (dj g2 e), h.opn.keep fun b e => kp b (h.opn.lt e) (dj g3 e), h.ents.keep fun b e => kp b (h.ents.lt e) (dj g4 e), fun x e => ?_, ?_⟩, ?_, ?_⟩
  · injection e with e
    rw [← e]
    exact hidx
  · simp only [SV.fp, List.pairwise_cons, List.mem_cons, List.not_mem_nil, or_false, forall_eq_or_imp, forall_eq, List.Pairwise.nil, and_true]
    exact ⟨⟨g1, g2, g3, g4, fresh _ fun b e => by injection e with e; rw [← e]; exact h.own.lt⟩, ⟨t2, t3, t4, fresh _ fun b e => h.tags.lt e⟩, ⟨w3, w4, fresh _ fun b e => h.wher.lt e⟩, ⟨o4, fresh _ fun b e => h.opn.lt e⟩, fresh _ fun b e => h.ents.lt e, fun _ h => h.elim⟩
  · exact ⟨hf.os, hf.tape, hf.output, hf.size, fun k hk hn => hf.block k hk (fun hm => hn (by
      simp only [List.mem_cons, List.not_mem_nil, or_false] at hm
      rw [hm]
      simp [SV.fp]))⟩
  · intro b hb
    simp only [SV.fp, List.mem_cons, List.not_mem_nil, or_false] at hb ⊢
    rcases hb with q | q | q | q | q | q
    · exact .inl (.inl q)
    · exact .inl (.inr (.inl q))
    · exact .inl (.inr (.inr (.inl q)))
    · exact .inl (.inr (.inr (.inr (.inl q))))
    · exact .inl (.inr (.inr (.inr (.inr (.inl q)))))
    · injection q with q
      exact .inr (by omega)
set_option maxRecDepth 100000 in
set_option maxHeartbeats 1000000 in
theorem find_none (s : St) (hok : s.ok) (tag : ByteArray) (ht : tag.size ≤ 60) (g : Nat) (p : SV) (hp : p.om = none) (w : World) (hs : SiteW w g s p) :
    Calls Tryd.prog 69 #[.pointer (some ⟨g, 0, none⟩), .string tag] w fun e w' => FindPost s tag g p w e w' := by
  have hmm := @run_makeMap Tryd.prog
  obtain ⟨ao, cap, hvt, hl, hc, -, -⟩ := hs.tags.view encS_len
  obtain ⟨n, hn⟩ : ∃ n, s.tags.length = n := ⟨_, rfl⟩
  have hn1 : n ≤ 1000 := by have := hok.tagsN; omega
  rw [hn] at hvt hl
  have hnd := Lib.hid hok.nodup
  have htz := Lib.hid hok.tagsZ
  have z6 : w.cell? ⟨g, 6, none⟩ = some (.map none) := by
    have := hs.own.c 6
    rw [hp] at this
    exact this
  have f6 := hs.own.f 6
  have Lg := hs.own.lt
  have hs0 := Lib.hid hs
  replace hn := Lib.hid hn
  replace hvt := Lib.hid hvt
  clear hs hok hp
  have qmap := eql_map
  go_enter Tryd.func69, Tryd.ntmps69
  go_upto_region 3 with fail
  generalize hWW : World.alloc _ _ = W0
  have hsz : (w.setCell ⟨g, 6, none⟩ (.map (some w.heap.size))).heap.size = w.heap.size := by simp [World.setCell]
  have hat0 : Hid (At W0 g 84 #[p.vt, p.vw, .string s.member, p.vo, p.ve, .bool s.poured, .map (some w.heap.size)]) := Lib.hid (by
    rw [← hWW]
    exact At.al (by simpa using hs0.out.own.put 6 (.map (some w.heap.size))) _)
  have hf0 : Hid (Frm [some g] w W0) := Lib.hid (by
    rw [← hWW]
    exact (Frm.of_set (p := ⟨g, 6, none⟩) (by simp) _).trans (Frm.of_below (F := [some g]) (below_al (Below.refl _ _) _)) (fun x h => .inl h))
  have hi0 : Hid (IdxAt W0 w.heap.size 0 (s.tags.take 0)) := Lib.hid (by
    rw [← hWW]
    have := IdxAt.made (w.setCell ⟨g, 6, none⟩ (.map (some w.heap.size)))
    rwa [hsz] at this)
  have z0' : W0.cell? ⟨g, 0, none⟩ = some (.slice ao n cap) := by
    have := hat0.out.c 0
    rw [hvt.out] at this
    exact this
  clear hWW z6 f6 hsz
  go_wp2_with fail
  clear z0'
  go_loopg [24] n (fun g1 i wr => ∃ k : Nat, k ≤ n ∧ i = .int .i64 (k : Int) ∧ Hid (g1 = n - k) ∧ Hid (At wr g 84 #[p.vt, p.vw, .string s.member, p.vo, p.ve, .bool s.poured, .map (some w.heap.size)]) ∧ Hid (IdxAt wr w.heap.size k (s.tags.take k)) ∧ Hid (Frm [some g] w wr))
  case atStart => exact ⟨0, Nat.zero_le _, rfl, Lib.hid rfl, hat0, hi0, hf0⟩
  case round =>
    clear hat0 hi0 hf0
    obtain ⟨k, hk, rfl, hr, hat, hi, hf⟩ := hrel
    have z6 : wr.cell? ⟨g, 6, none⟩ = some (.map (some w.heap.size)) := hat.out.c 6
    by_cases hlt : k < n
    · have hkt : Hid (k < s.tags.length) := Lib.hid (by rw [hn.out]; exact hlt)
      have hrw : Hid (Row wr 9 1 encS (.slice ao n cap) s.tags) := Lib.hid (by
        have h1 : Row wr 9 1 encS p.vt s.tags := hs0.out.tags.keep fun b e => hf.out.block b (hs0.out.tags.lt e) (fun hm => by
          have hsep := hs0.out.sep
          simp only [SV.fp, List.pairwise_cons, List.mem_cons, List.not_mem_nil, or_false, forall_eq_or_imp, forall_eq, List.Pairwise.nil, and_true] at hsep
          simp only [List.mem_cons, List.not_mem_nil, or_false] at hm
          exact hsep.1.1 b hm.symm e)
        rwa [hvt.out] at h1)
      have hxz := Lib.hid (htz.out _ (List.getElem_mem hkt.out))
      obtain ⟨b, off, rfl, d0, hb⟩ := (hrw.out.at encS_len).one (f := fun s => .string s) k hkt.out
      have hnx := Lib.hid (not_in_take hnd.out hkt.out)
      obtain ⟨x, hx⟩ : ∃ x, s.tags[k]'hkt.out = x := ⟨_, rfl⟩
      rw [hx] at d0 hxz hnx
      replace hx := Lib.hid hx
      clear hb
      obtain ⟨D, hown, hdat⟩ := hi.out
      have hD := Lib.hid hown.isMap
      replace hdat := Lib.hid hdat
      have hkn : Hid (k < maxLen) := Lib.hid (by unfold maxLen; omega)
      have hkey := key_of x (by have := hxz.out; unfold maxLen; omega)
      have hkw : Hid ((Lit.int .i64 (k : Int)).wf = true) := Lib.hid (WalkArith.wf_i64 (by omega))
      go_wp2_with (first | (at_mapUpdate; refine wpList_mapUpdate_own _ rfl _ _ _ 65 rfl 9 3 key_str Tryd.underlying65 _ w.heap.size k _ rfl hown hkn.out _ _ _ rfl rfl hkey _ [] (plainElem_int Tryd.underlying3 hkw.out) ?_) | go_in)
      intro w2 hown2 hg2
      have hi2 : Hid (IdxAt w2 w.heap.size (k + 1) (s.tags.take (k + 1))) := Lib.hid (by
        have hlen : (s.tags.take k).length = k := by rw [List.length_take]; have := hkt.out; omega
        rw [List.take_succ_eq_append_getElem hkt.out, hx.out]
        exact idx_put (by rw [hlen]; exact hown2) hD.out hnx.out hdat.out)
      have hat2 : Hid (At w2 g 84 #[p.vt, p.vw, .string s.member, p.vo, p.ve, .bool s.poured, .map (some w.heap.size)]) := Lib.hid ((hg2.block g hat.out.lt (fun e => by injection e with e; omega)).trans hat.out)
      have hf2 : Hid (Frm [some g] w w2) := Lib.hid ⟨hg2.os.trans hf.out.os, hg2.tape.trans hf.out.tape, hg2.output.trans hf.out.output, Nat.le_trans hf.out.size hg2.size, fun i hi hn => (hg2.block i (Nat.lt_of_lt_of_le hi hf.out.size) (fun e => by injection e with e; omega)).trans (hf.out.block i hi hn)⟩
      clear hown hown2 hg2 hkey hi hat hf z6 d0
      go_wp2_with fail
      go_roundg (n - (k + 1))
      case measure => have := hr.out; omega
      case rel => exact ⟨k + 1, by omega, by go_num, Lib.hid rfl, hat2, hi2, hf2⟩
    · have hi3 : Hid (IdxAt wr w.heap.size s.tags.length s.tags) := Lib.hid (by
        have h1 : k = s.tags.length := by have := hn.out; omega
        have h2 := hi.out
        rw [h1, List.take_length] at h2
        exact h2)
      have hS := Lib.hid (hs0.out.indexed rfl hat.out hi3.out hf.out)
      obtain ⟨v, hlook, hv⟩ := hi3.out.look tag (by unfold maxLen; omega)
      obtain ⟨b, hb⟩ : ∃ b, inB tag s.tags = b := ⟨_, rfl⟩
      replace hv : b = true → v = (ix s.tags tag : Int) := fun h => hv (inB_iff.1 (hb.trans h))
      rw [hb] at hlook
      replace hv := Lib.hid hv
      replace hb := Lib.hid hb
      go_wp2_with fail
      exact bodyPost_ret (v := .tuple #[.int .i64 v, .bool b]) (by simp [results, Tryd.results69, go_sem]) rfl ⟨⟨v, by rw [hb.out], by rw [hb.out]; exact hv.out⟩, hS.out⟩
theorem find_any (s : St) (hok : s.ok) (tag : ByteArray) (ht : tag.size ≤ 60) (g : Nat) (p : SV) (w : World) (hs : SiteW w g s p) :
    Calls Tryd.prog 69 #[.pointer (some ⟨g, 0, none⟩), .string tag] w fun e w' => FindPost s tag g p w e w' := by
  cases hp : p.om with
  | none => exact find_none s hok tag ht g p hp w hs
  | some m => exact find_some s hok tag ht g m p hp w hs
end Go.Proofs.YtjlkbmaigcgnbaaDoor
set_option linter.unusedVariables false
namespace Go.Proofs.YtjlkbmaigcgnbaaDoor
open Go.ChangeShapes Go.WideShapes Go.ChangeAt Go.RowKit
structure Djs (g : Nat) (p : SV) : Prop where
  g1 : Dj (some g) p.vt.ownBlock
  g2 : Dj (some g) p.vw.ownBlock
  g3 : Dj (some g) p.vo.ownBlock
  g4 : Dj (some g) p.ve.ownBlock
  g5 : Dj (some g) p.om
  t2 : Dj p.vt.ownBlock p.vw.ownBlock
  t3 : Dj p.vt.ownBlock p.vo.ownBlock
  t4 : Dj p.vt.ownBlock p.ve.ownBlock
  t5 : Dj p.vt.ownBlock p.om
  w3 : Dj p.vw.ownBlock p.vo.ownBlock
  w4 : Dj p.vw.ownBlock p.ve.ownBlock
  w5 : Dj p.vw.ownBlock p.om
  o4 : Dj p.vo.ownBlock p.ve.ownBlock
  o5 : Dj p.vo.ownBlock p.om
  e5 : Dj p.ve.ownBlock p.om
theorem Djs.iff {g : Nat} {p : SV} : (p.fp g).Pairwise Dj ↔ Djs g p := by
  simp only [SV.fp, List.pairwise_cons, List.mem_cons, List.not_mem_nil, or_false, forall_eq_or_imp, forall_eq, List.Pairwise.nil, and_true]
  constructor
  · rintro ⟨⟨g1, g2, g3, g4, g5⟩, ⟨t2, t3, t4, t5⟩, ⟨w3, w4, w5⟩, ⟨o4, o5⟩, e5, -⟩
    exact ⟨g1, g2, g3, g4, g5, t2, t3, t4, t5, w3, w4, w5, o4, o5, e5⟩
  · rintro ⟨g1, g2, g3, g4, g5, t2, t3, t4, t5, w3, w4, w5, o4, o5, e5⟩
    exact ⟨⟨g1, g2, g3, g4, g5⟩, ⟨t2, t3, t4, t5⟩, ⟨w3, w4, w5⟩, ⟨o4, o5⟩, e5, fun _ h => h.elim⟩
theorem Dj.no {a o : Option Nat} (h : Dj a o) {b : Nat} (hb : a = some b) : some b ≠ o := fun e => h b hb e.symm
theorem SiteW.remake {w w' : World} {g : Nat} {s : St} {p : SV} (h : SiteW w g s p) (s' : St) (p' : SV) (n : Nat) (hn : w.heap.size ≤ n)
    (hown : At w' g 84 #[p'.vt, p'.vw, .string s'.member, p'.vo, p'.ve, .bool s'.poured, .map p'.om]) (hvt : p'.vt = p.vt) (hst : s'.tags = s.tags) (hom : p'.om = p.om)
    (hkt : ∀ b, p.vt.ownBlock = some b → w'.heap[b]? = w.heap[b]?) (hkm : ∀ b, p.om = some b → w'.heap[b]? = w.heap[b]?)
    (hw : Row w' 3 1 encN p'.vw s'.at_) (hww : p'.vw.ownBlock = p.vw.ownBlock)
    (ho : Row w' 9 1 encS p'.vo s'.open_) (hoo : p'.vo.ownBlock = p.vo.ownBlock ∨ p'.vo.ownBlock = some n)
    (he : Row w' 58 3 encE p'.ve s'.kept) (hee : p'.ve.ownBlock = p.ve.ownBlock ∨ p'.ve.ownBlock = some n)
    (hone : p'.vo.ownBlock = p.vo.ownBlock ∨ p'.ve.ownBlock = p.ve.ownBlock) (hf : Frm (p.fp g) w w') : SDone w w' g s' p := by
  have d := Djs.iff.1 h.sep
  have lg : ∀ x, (some g : Option Nat) = some x → x < n := fun x e => by injection e with e; have := h.own.lt; omega
  have lt : ∀ x, p.vt.ownBlock = some x → x < n := fun x e => by have := h.tags.lt e; omega
  have lw : ∀ x, p.vw.ownBlock = some x → x < n := fun x e => by have := h.wher.lt e; omega
  have lo : ∀ x, p.vo.ownBlock = some x → x < n := fun x e => by have := h.opn.lt e; omega
  have le : ∀ x, p.ve.ownBlock = some x → x < n := fun x e => by have := h.ents.lt e; omega
  have lm : ∀ x, p.om = some x → x < n := fun x e => by have := (h.idx x e).lt; omega
  refine ⟨p', ⟨hown, ?_, hw, ho, he, ?_, ?_⟩, hf, ?_⟩
  · rw [hvt, hst]
    exact h.tags.keep hkt
  · intro m e
    rw [hom] at e
    rw [hst]
    exact (h.idx m e).same (hkm m e)
  · rw [Djs.iff]
    refine ⟨hvt ▸ d.g1, hww ▸ d.g2, d.g3.up lg hoo, d.g4.up lg hee, hom ▸ d.g5, ?_, ?_, ?_, ?_, ?_, ?_, ?_, ?_, ?_, ?_⟩
    · rw [hvt, hww]; exact d.t2
    · rw [hvt]; exact d.t3.up lt hoo
    · rw [hvt]; exact d.t4.up lt hee
    · rw [hvt, hom]; exact d.t5
    · rw [hww]; exact d.w3.up lw hoo
    · rw [hww]; exact d.w4.up lw hee
    · rw [hww, hom]; exact d.w5
    · rcases hone with q | q
      · rw [q]; exact d.o4.up lo hee
      · rw [q]; exact (d.o4.symm.up le hoo).symm
    · rw [hom]; exact (d.o5.symm.up lm hoo).symm
    · rw [hom]; exact (d.e5.symm.up lm hee).symm
  · intro b hb
    simp only [SV.fp, List.mem_cons, List.not_mem_nil, or_false] at hb ⊢
    rcases hb with q | q | q | q | q | q
    · exact .inl (.inl q)
    · exact .inl (.inr (.inl (by rw [q, hvt])))
    · exact .inl (.inr (.inr (.inl (by rw [q, hww]))))
    · rcases hoo with e | e
      · exact .inl (.inr (.inr (.inr (.inl (by rw [q, e])))))
      · rw [e] at q
        injection q with q
        exact .inr (by omega)
    · rcases hee with e | e
      · exact .inl (.inr (.inr (.inr (.inr (.inl (by rw [q, e]))))))
      · rw [e] at q
        injection q with q
        exact .inr (by omega)
    · exact .inl (.inr (.inr (.inr (.inr (.inr (by rw [q, hom]))))))
theorem flat_set (l : List Nat) (k x : Nat) (hk : k < l.length) : (l.set k x).flatMap encN = (l.flatMap encN).set k (.int .i64 (x : Int)) := by
  have e : ∀ m : List Nat, m.flatMap encN = m.map (fun n : Nat => Value.int .i64 (n : Int)) := fun m => by
    induction m with
    | nil => rfl
    | cons a m ih => rw [List.flatMap_cons, ih]; rfl
  rw [e, e, List.map_set]
theorem Row.set {w : World} {e : TypeId} {gw n cap : Nat} {l : List Nat} (h : Row w e 1 encN (.slice (some ⟨gw, 0, none⟩) n cap) l) (k x : Nat) (hk : k < l.length) : Row (w.setCell ⟨gw, k, none⟩ (.int .i64 (x : Int))) e 1 encN (.slice (some ⟨gw, 0, none⟩) n cap) (l.set k x) := by
  obtain ⟨hl, ⟨h1, h2⟩ | ⟨g, cap', cur, h1, h2, h3, h4, h5, h6, h7⟩⟩ := h
  · cases h1
  · simp only [Value.slice.injEq, Option.some.injEq, Addr.mk.injEq, and_true] at h1
    obtain ⟨rfl, rfl, rfl⟩ := h1
    unfold Row
    rw [flat_set l k x hk, List.length_set]
    refine ⟨by rw [List.length_set, hl], .inr ⟨gw, cap, cur.setIfInBounds k (.int .i64 (x : Int)), rfl, Nat.zero_le _, ?_, h4, h5, by simp [h6], ?_⟩⟩
    · simp [World.setCell, Array.getElem?_modify, h3]
    · rw [← h7, Array.toList_setIfInBounds, List.take_set]
theorem Row.blk {α : Type} {w : World} {e : TypeId} {sz : Nat} {enc : α → List Value} {v : Value} {l : List α} (h : Row w e sz enc v l) (hl : 0 < l.length) : ∃ gw cap, v = .slice (some ⟨gw, 0, none⟩) l.length cap ∧ l.length ≤ cap ∧ w.frozen? ⟨gw, 0, none⟩ = false ∧ ∀ i, w.frozen? ⟨gw, i, none⟩ = false := by
  obtain ⟨_, ⟨h1, h2⟩ | ⟨g, cap, cur, h1, h2, h3, h4, h5, h6, h7⟩⟩ := h
  · omega
  · exact ⟨g, cap, h1, h4, by simp [World.frozen?, h3], fun i => by simp [World.frozen?, h3]⟩
set_option maxRecDepth 100000 in
set_option maxHeartbeats 1000000 in
theorem move_any (s : St) (hok : s.ok) (name : ByteArray) (ht : name.size ≤ 60) (a b : Nat) (g : Nat) (p : SV) (w : World) (hs : SiteW w g s p) :
    Calls Tryd.prog 54 #[.pointer (some ⟨g, 0, none⟩), .string name, .int .i64 (a : Int), .int .i64 (b : Int)] w fun e w' => e = .returned (.int .i64 (moveS s name a b).1) ∧ SDone w w' g (moveS s name a b).2 p := by
  have HF := Lib.hid (find_any s hok name ht g p w hs)
  obtain ⟨R, hR⟩ : ∃ R, moveS s name a b = R := ⟨_, rfl⟩
  rw [hR]
  unfold moveS at hR
  clear hs
  go_enter Tryd.func54, Tryd.ntmps54
  go_wp2_with fail
  refine (HF.out).mono ?_
  rintro e w1 ⟨⟨i, rfl, hi⟩, p1, hs1, hf1, hm1⟩
  clear HF
  have hsame : Hid (SDone w w1 g s p) := Lib.hid ⟨p1, hs1, hf1, hm1⟩
  cases hb : inB name s.tags
  · rw [hb] at hR
    have hE : Hid (R = (9, s)) := Lib.hid hR.symm
    clear hR hi hs1
    go_wp2_with fail
    go_ret
    exact ⟨by rw [hE.out]; rfl, by rw [hE.out]; exact hsame.out⟩
  · rw [hb] at hR
    obtain rfl := hi hb
    obtain ⟨k, hk⟩ : ∃ k, ix s.tags name = k := ⟨_, rfl⟩
    have hkl : k < s.at_.length := by rw [hok.len, ← hk]; exact ix_mem (inB_iff.1 hb)
    rw [hk] at hR ⊢
    rw [if_neg (by decide)] at hR
    have hgd : s.at_.getD k 0 = s.at_[k] := by simp [List.getD, hkl]
    rw [hgd] at hR
    obtain ⟨gw, cw, hvw, hlc, -, hfz⟩ := hs1.wher.blk (by omega)
    have z1 : w1.cell? ⟨g, 1, none⟩ = some (.slice (some ⟨gw, 0, none⟩) s.at_.length cw) := by
      have := hs1.own.c 1
      rw [hvw] at this
      exact this
    obtain ⟨b', off', e', d0, hlt⟩ := ((show Row w1 _ 1 encN (.slice (some ⟨gw, 0, none⟩) s.at_.length cw) s.at_ from hvw ▸ hs1.wher).at encN_len).one (f := fun n : Nat => Value.int .i64 (n : Int)) k hkl
    simp only [Option.some.injEq, Addr.mk.injEq, and_true] at e'
    obtain ⟨rfl, rfl⟩ := e'
    have fz := hfz k
    rw [Nat.zero_add] at d0
    obtain ⟨y, hy⟩ : ∃ y, s.at_[k] = y := ⟨_, rfl⟩
    rw [hy] at d0 hR
    have hn1 : s.at_.length ≤ 1000 := by have := hok.len; have := hok.tagsN; omega
    obtain ⟨n, hn⟩ : ∃ n, s.at_.length = n := ⟨_, rfl⟩
    rw [hn] at z1 hn1 hlc
    have hkn : k < n := by omega
    have hkl' := Lib.hid hkl
    have hvw' := Lib.hid hvw
    have hs1' := Lib.hid hs1
    clear hs1 hfz hvw hkl hgd hy hk hi
    by_cases hya : y = a
    · rw [if_neg (by simpa using hya)] at hR
      have hE : Hid (R = (0, { s with at_ := s.at_.set k b })) := Lib.hid hR.symm
      subst hya
      have hS : Hid (SDone w (w1.setCell ⟨gw, k, none⟩ (.int .i64 (b : Int))) g { s with at_ := s.at_.set k b } p) := Lib.hid (by
        have d := Djs.iff.1 hs1'.out.sep
        have hbk : p1.vw.ownBlock = some gw := by rw [hvw'.out]; rfl
        have kp : ∀ o : Option Nat, Dj o p1.vw.ownBlock → ∀ x, o = some x → (w1.setCell ⟨gw, k, none⟩ (.int .i64 (b : Int))).heap[x]? = w1.heap[x]? := fun o hd x e => Below.heap_setCell _ _ _ _ (fun hx => hd x e (by rw [hbk]; rw [hx]))
        refine SDone.then hf1 hm1 (hs1'.out.remake _ p1 w1.heap.size (Nat.le_refl _) ((kp _ d.g2 g rfl).trans hs1'.out.own) rfl rfl rfl (kp _ d.t2) (kp _ d.w5.symm) ?_ rfl (hs1'.out.opn.keep (kp _ d.w3.symm)) (.inl rfl) (hs1'.out.ents.keep (kp _ d.w4.symm)) (.inl rfl) (.inl rfl) ?_)
        · have := (show Row w1 3 1 encN (.slice (some ⟨gw, 0, none⟩) s.at_.length cw) s.at_ from hvw'.out ▸ hs1'.out.wher).set k b hkl'.out
          rw [← hvw'.out] at this
          exact this
        · exact Frm.of_set (by simp [SV.fp, hbk]) _)
      clear hR hsame
      go_wp2_with fail
      go_ret
      exact ⟨by rw [hE.out]; rfl, by rw [hE.out]; exact hS.out⟩
    · rw [if_pos (by simpa using hya)] at hR
      have hE : Hid (R = (13, s)) := Lib.hid hR.symm
      have h3 : ((y : Int) != (a : Int)) = true := by simp; omega
      clear hR hya
      go_wp2_with fail
      go_ret
      exact ⟨by rw [hE.out]; rfl, by rw [hE.out]; exact hsame.out⟩
set_option maxRecDepth 100000 in
set_option maxHeartbeats 1000000 in
theorem pour_any (s : St) (hok : s.ok) (name : ByteArray) (g : Nat) (p : SV) (w : World) (hs : SiteW w g s p) :
    Calls Tryd.prog 57 #[.pointer (some ⟨g, 0, none⟩), .string name] w fun e w' => e = .returned (.int .i64 (pourS s name).1) ∧ SDone w w' g (pourS s name).2 p := by
  have HR := Lib.hid (ready_any s hok g p w hs)
  obtain ⟨R, hR⟩ : ∃ R, pourS s name = R := ⟨_, rfl⟩
  rw [hR]
  unfold pourS at hR
  have z2 : w.cell? ⟨g, 2, none⟩ = some (.string s.member) := hs.own.c 2
  obtain ⟨rd, hrd⟩ : ∃ rd, readyS s = rd := ⟨_, rfl⟩
  rw [hrd] at hR
  rw [hrd] at HR
  replace hs := Lib.hid hs
  clear hrd hok
  by_cases he : name = s.member
  · have es := str_eq he
    rw [if_neg (by simpa using he)] at hR
    clear he
    go_enter Tryd.func57, Tryd.ntmps57
    go_wp2_with fail
    refine (HR.out).mono ?_
    rintro e w1 ⟨rfl, HB⟩
    have hs1 := Lib.hid (hs.out.bel HB)
    cases rd
    · have hE : Hid (R = (24, s)) := Lib.hid (by rw [if_pos rfl] at hR; exact hR.symm)
      clear hR
      go_wp2_with fail
      go_ret
      exact ⟨by rw [hE.out]; rfl, by rw [hE.out]; exact SDone.same hs.out HB⟩
    · have hE : Hid (R = (0, { s with poured := true })) := Lib.hid (by rw [if_neg (by decide)] at hR; exact hR.symm)
      have z5 : w1.cell? ⟨g, 5, none⟩ = some (.bool s.poured) := hs1.out.own.c 5
      have f5 := hs1.out.own.f 5
      have hS : Hid (SDone w (w1.setCell ⟨g, 5, none⟩ (.bool true)) g { s with poured := true } p) := Lib.hid (by
        have d := Djs.iff.1 hs1.out.sep
        have kp : ∀ o : Option Nat, Dj (some g) o → ∀ x, o = some x → (w1.setCell ⟨g, 5, none⟩ (.bool true)).heap[x]? = w1.heap[x]? := fun o hd x e => Below.heap_setCell _ _ _ _ (fun hx => hd x (by rw [hx]) e)
        refine SDone.then (Frm.of_below HB) (fun _ h => .inl h) (hs1.out.remake _ p w1.heap.size (Nat.le_refl _) (by simpa using hs1.out.own.put 5 (.bool true)) rfl rfl rfl (kp _ d.g1) (kp _ d.g5) (hs1.out.wher.keep (kp _ d.g2)) rfl (hs1.out.opn.keep (kp _ d.g3)) (.inl rfl) (hs1.out.ents.keep (kp _ d.g4)) (.inl rfl) (.inl rfl) (Frm.of_set (by simp [SV.fp]) _)))
      clear hR
      go_wp2_with fail
      go_ret
      exact ⟨by rw [hE.out]; rfl, by rw [hE.out]; exact hS.out⟩
  · have es := str_ne he
    have hE : Hid (R = (9, s)) := Lib.hid (by rw [if_pos he] at hR; exact hR.symm)
    clear hR he
    go_enter Tryd.func57, Tryd.ntmps57
    go_wp2_with fail
    go_ret
    exact ⟨by rw [hE.out]; rfl, by rw [hE.out]; exact SDone.same hs.out (Below.refl _ _)⟩
end Go.Proofs.YtjlkbmaigcgnbaaDoor
