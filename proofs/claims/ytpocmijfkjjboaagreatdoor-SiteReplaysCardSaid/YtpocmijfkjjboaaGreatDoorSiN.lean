/- site: find. -/
import Derived.Test.YtpocmijfkjjboaaGreatDoorSiK
import Derived.Lib.SliceRun
set_option linter.unusedVariables false
namespace Go.Proofs.YtpocmijfkjjboaaGreatDoor
open Go.ChangeShapes Go.WideShapes Go.ChangeAt Go.RowKit Go.Maps Go.ChangeMaps Go.WideMaps

theorem eqIn_map {w : World} (fuel : Nat) (t k e : TypeId) (a : Option Nat) (h : Tryz.prog.underlying t = some (.map k e)) : (Op.equalIn (fuel + 1) t (.map a) (.map none)).run Tryz.prog w = .ok a.isNone w := by
  cases a <;> simp [Op.equalIn, run_underlying h]
theorem eql_map (w : World) (a : Option Nat) : (binOp .eql 69 (.map a) (.map none)).run Tryz.prog w = .ok (.bool a.isNone) w := by
  simp only [binOp]
  simp [Op.equal, Op.maxDepth, eqIn_map 9999 69 _ _ a Tryz.underlying69]
theorem ix_mem {ts : List ByteArray} {x : ByteArray} (h : x ∈ ts) : ix ts x < ts.length := by
  unfold ix
  rw [List.findIdx_lt_length]
  exact ⟨x, h, by simp⟩
theorem not_in_take {ts : List ByteArray} (h : ts.Nodup) {k : Nat} (hk : k < ts.length) : ¬ ts[k] ∈ ts.take k := fun hm => by
  rw [List.mem_take_iff_getElem] at hm
  obtain ⟨j, hj, e⟩ := hm
  have := (List.getElem_inj h).1 e
  omega
def FindPost (s : St) (tag : ByteArray) (g : Nat) (p : SV) (w : World) (e : Ending) (w' : World) : Prop :=
  (∃ i : Int, e = .returned (.tuple #[.int .i64 i, .bool (inB tag s.tags)]) ∧ (inB tag s.tags = true → i = (ix s.tags tag : Int))) ∧ SDone w w' g s p
set_option maxRecDepth 100000 in
set_option maxHeartbeats 1000000 in
theorem find_some (s : St) (hok : s.ok) (tag : ByteArray) (ht : tag.size ≤ 60) (g m : Nat) (p : SV) (hp : p.om = some m) (w : World) (hs : SiteW w g s p) :
    Calls Tryz.prog 73 #[.pointer (some ⟨g, 0, none⟩), .string tag] w fun e w' => FindPost s tag g p w e w' := by
  obtain ⟨v, hlook, hv⟩ := (hs.idx m hp).look tag (by unfold maxLen; omega)
  have hS := Lib.hid (SDone.same hs (Below.refl _ _))
  obtain ⟨b, hb⟩ : ∃ b, inB tag s.tags = b := ⟨_, rfl⟩
  replace hv : b = true → v = (ix s.tags tag : Int) := fun h => hv (inB_iff.1 (hb.trans h))
  rw [hb] at hlook
  have z6 : w.cell? ⟨g, 6, none⟩ = some (.map (some m)) := by
    have := hs.own.c 6
    rw [hp] at this
    exact this
  replace hv := Lib.hid hv
  replace hb := Lib.hid hb
  clear hs hok hp
  have qmap := eql_map
  go_enter Tryz.func73, Tryz.ntmps73
  go_wp2_with fail
  exact bodyPost_ret (v := .tuple #[.int .i64 v, .bool b]) (by simp [results, Tryz.results73, go_sem]) rfl ⟨⟨v, by rw [hb.out], by rw [hb.out]; exact hv.out⟩, hS.out⟩
theorem SiteW.indexed {w w' : World} {g m : Nat} {s : St} {p : SV} (h : SiteW w g s p) (hm : m = w.heap.size) (hown : At w' g 71 #[p.vt, p.vw, .string s.member, p.vo, p.ve, .bool s.poured, .map (some m)]) (hidx : IdxAt w' m s.tags.length s.tags) (hf : Frm [some g] w w') : SDone w w' g s p := by
  have hsep := h.sep
  simp only [SV.fp, List.pairwise_cons, List.mem_cons, List.not_mem_nil, or_false, forall_eq_or_imp, forall_eq, List.Pairwise.nil, and_true] at hsep
  obtain ⟨⟨g1, g2, g3, g4, g5⟩, ⟨t2, t3, t4, t5⟩, ⟨w3, w4, w5⟩, ⟨o4, o5⟩, e5, -⟩ := hsep
  have kp : ∀ b, b < w.heap.size → Dj (some g) (some b) → w'.heap[b]? = w.heap[b]? := fun b hb hd => hf.block b hb (fun hm => by
    simp only [List.mem_cons, List.not_mem_nil, or_false] at hm
    exact hd b hm.symm rfl)
  have fresh : ∀ o : Option Nat, (∀ b, o = some b → b < w.heap.size) → Dj o (some m) := fun o ho x h1 h2 => by
    have := ho x h1
    injection h2 with h2
    omega
  have dj : ∀ {o : Option Nat} {b : Nat}, Dj (some g) o → o = some b → Dj (some g) (some b) := fun h e => e ▸ h
  refine ⟨⟨p.vt, p.vw, p.vo, p.ve, some m⟩, ⟨hown, h.tags.keep fun b e => kp b (h.tags.lt e) (dj g1 e), h.wher.keep fun b e => kp b (h.wher.lt e) (dj g2 e), h.opn.keep fun b e => kp b (h.opn.lt e) (dj g3 e), h.ents.keep fun b e => kp b (h.ents.lt e) (dj g4 e), fun x e => ?_, ?_⟩, ?_, ?_⟩
  · injection e with e
    rw [← e]
    exact hidx
  · simp only [SV.fp, List.pairwise_cons, List.mem_cons, List.not_mem_nil, or_false, forall_eq_or_imp, forall_eq, List.Pairwise.nil, and_true]
    exact ⟨⟨g1, g2, g3, g4, fresh _ fun b e => by injection e with e; rw [← e]; exact h.own.lt⟩, ⟨t2, t3, t4, fresh _ fun b e => h.tags.lt e⟩, ⟨w3, w4, fresh _ fun b e => h.wher.lt e⟩, ⟨o4, fresh _ fun b e => h.opn.lt e⟩, fresh _ fun b e => h.ents.lt e, fun _ h => h.elim⟩
  · exact ⟨hf.os, hf.tape, hf.output, hf.size, fun k hk hn => hf.block k hk (fun hm => hn (by
      simp only [List.mem_cons, List.not_mem_nil, or_false] at hm
      rw [hm]
      simp [SV.fp]))⟩
  · intro b hb
    simp only [SV.fp, List.mem_cons, List.not_mem_nil, or_false] at hb ⊢
    rcases hb with q | q | q | q | q | q
    · exact .inl (.inl q)
    · exact .inl (.inr (.inl q))
    · exact .inl (.inr (.inr (.inl q)))
    · exact .inl (.inr (.inr (.inr (.inl q))))
    · exact .inl (.inr (.inr (.inr (.inr (.inl q)))))
    · injection q with q
      exact .inr (by omega)
set_option maxRecDepth 100000 in
set_option maxHeartbeats 1000000 in
theorem find_none (s : St) (hok : s.ok) (tag : ByteArray) (ht : tag.size ≤ 60) (g : Nat) (p : SV) (hp : p.om = none) (w : World) (hs : SiteW w g s p) :
    Calls Tryz.prog 73 #[.pointer (some ⟨g, 0, none⟩), .string tag] w fun e w' => FindPost s tag g p w e w' := by
  have hmm := @run_makeMap Tryz.prog
  obtain ⟨ao, cap, hvt, hl, hc, -, -⟩ := hs.tags.view encS_len
  obtain ⟨n, hn⟩ : ∃ n, s.tags.length = n := ⟨_, rfl⟩
  have hn1 : n ≤ 1000 := by have := hok.tagsN; omega
  rw [hn] at hvt hl
  have hnd := Lib.hid hok.nodup
  have htz := Lib.hid hok.tagsZ
  have z6 : w.cell? ⟨g, 6, none⟩ = some (.map none) := by
    have := hs.own.c 6
    rw [hp] at this
    exact this
  have f6 := hs.own.f 6
  have Lg := hs.own.lt
  have hs0 := Lib.hid hs
  replace hn := Lib.hid hn
  replace hvt := Lib.hid hvt
  clear hs hok hp
  have qmap := eql_map
  go_enter Tryz.func73, Tryz.ntmps73
  go_upto_region 3 with fail
  generalize hWW : World.alloc _ _ = W0
  have hsz : (w.setCell ⟨g, 6, none⟩ (.map (some w.heap.size))).heap.size = w.heap.size := by simp [World.setCell]
  have hat0 : Hid (At W0 g 71 #[p.vt, p.vw, .string s.member, p.vo, p.ve, .bool s.poured, .map (some w.heap.size)]) := Lib.hid (by
    rw [← hWW]
    exact At.al (by simpa using hs0.out.own.put 6 (.map (some w.heap.size))) _)
  have hf0 : Hid (Frm [some g] w W0) := Lib.hid (by
    rw [← hWW]
    exact (Frm.of_set (p := ⟨g, 6, none⟩) (by simp) _).trans (Frm.of_below (F := [some g]) (below_al (Below.refl _ _) _)) (fun x h => .inl h))
  have hi0 : Hid (IdxAt W0 w.heap.size 0 (s.tags.take 0)) := Lib.hid (by
    rw [← hWW]
    have := IdxAt.made (w.setCell ⟨g, 6, none⟩ (.map (some w.heap.size)))
    rwa [hsz] at this)
  have z0' : W0.cell? ⟨g, 0, none⟩ = some (.slice ao n cap) := by
    have := hat0.out.c 0
    rw [hvt.out] at this
    exact this
  clear hWW z6 f6 hsz
  go_wp2_with fail
  clear z0'
  go_loopg [24] n (fun g1 i wr => ∃ k : Nat, k ≤ n ∧ i = .int .i64 (k : Int) ∧ Hid (g1 = n - k) ∧ Hid (At wr g 71 #[p.vt, p.vw, .string s.member, p.vo, p.ve, .bool s.poured, .map (some w.heap.size)]) ∧ Hid (IdxAt wr w.heap.size k (s.tags.take k)) ∧ Hid (Frm [some g] w wr))
  case atStart => exact ⟨0, Nat.zero_le _, rfl, Lib.hid rfl, hat0, hi0, hf0⟩
  case round =>
    clear hat0 hi0 hf0
    obtain ⟨k, hk, rfl, hr, hat, hi, hf⟩ := hrel
    have z6 : wr.cell? ⟨g, 6, none⟩ = some (.map (some w.heap.size)) := hat.out.c 6
    by_cases hlt : k < n
    · have hkt : Hid (k < s.tags.length) := Lib.hid (by rw [hn.out]; exact hlt)
      have hrw : Hid (Row wr 9 1 encS (.slice ao n cap) s.tags) := Lib.hid (by
        have h1 : Row wr 9 1 encS p.vt s.tags := hs0.out.tags.keep fun b e => hf.out.block b (hs0.out.tags.lt e) (fun hm => by
          have hsep := hs0.out.sep
          simp only [SV.fp, List.pairwise_cons, List.mem_cons, List.not_mem_nil, or_false, forall_eq_or_imp, forall_eq, List.Pairwise.nil, and_true] at hsep
          simp only [List.mem_cons, List.not_mem_nil, or_false] at hm
          exact hsep.1.1 b hm.symm e)
        rwa [hvt.out] at h1)
      have hxz := Lib.hid (htz.out _ (List.getElem_mem hkt.out))
      obtain ⟨b, off, rfl, d0, hb⟩ := (hrw.out.at encS_len).one (f := fun s => .string s) k hkt.out
      have hnx := Lib.hid (not_in_take hnd.out hkt.out)
      obtain ⟨x, hx⟩ : ∃ x, s.tags[k]'hkt.out = x := ⟨_, rfl⟩
      rw [hx] at d0 hxz hnx
      replace hx := Lib.hid hx
      clear hb
      obtain ⟨D, hown, hdat⟩ := hi.out
      have hD := Lib.hid hown.isMap
      replace hdat := Lib.hid hdat
      have hkn : Hid (k < maxLen) := Lib.hid (by unfold maxLen; omega)
      have hkey := key_of x (by have := hxz.out; unfold maxLen; omega)
      have hkw : Hid ((Lit.int .i64 (k : Int)).wf = true) := Lib.hid (WalkArith.wf_i64 (by omega))
      go_wp2_with (first | (at_mapUpdate; refine wpList_mapUpdate_own _ rfl _ _ _ 69 rfl 9 3 key_str Tryz.underlying69 _ w.heap.size k _ rfl hown hkn.out _ _ _ rfl rfl hkey _ [] (plainElem_int Tryz.underlying3 hkw.out) ?_) | go_in)
      intro w2 hown2 hg2
      have hi2 : Hid (IdxAt w2 w.heap.size (k + 1) (s.tags.take (k + 1))) := Lib.hid (by
        have hlen : (s.tags.take k).length = k := by rw [List.length_take]; have := hkt.out; omega
        rw [List.take_succ_eq_append_getElem hkt.out, hx.out]
        exact idx_put (by rw [hlen]; exact hown2) hD.out hnx.out hdat.out)
      have hat2 : Hid (At w2 g 71 #[p.vt, p.vw, .string s.member, p.vo, p.ve, .bool s.poured, .map (some w.heap.size)]) := Lib.hid ((hg2.block g hat.out.lt (fun e => by injection e with e; omega)).trans hat.out)
      have hf2 : Hid (Frm [some g] w w2) := Lib.hid ⟨hg2.os.trans hf.out.os, hg2.tape.trans hf.out.tape, hg2.output.trans hf.out.output, Nat.le_trans hf.out.size hg2.size, fun i hi hn => (hg2.block i (Nat.lt_of_lt_of_le hi hf.out.size) (fun e => by injection e with e; omega)).trans (hf.out.block i hi hn)⟩
      clear hown hown2 hg2 hkey hi hat hf z6 d0
      go_wp2_with fail
      go_roundg (n - (k + 1))
      case measure => have := hr.out; omega
      case rel => exact ⟨k + 1, by omega, by go_num, Lib.hid rfl, hat2, hi2, hf2⟩
    · have hi3 : Hid (IdxAt wr w.heap.size s.tags.length s.tags) := Lib.hid (by
        have h1 : k = s.tags.length := by have := hn.out; omega
        have h2 := hi.out
        rw [h1, List.take_length] at h2
        exact h2)
      have hS := Lib.hid (hs0.out.indexed rfl hat.out hi3.out hf.out)
      obtain ⟨v, hlook, hv⟩ := hi3.out.look tag (by unfold maxLen; omega)
      obtain ⟨b, hb⟩ : ∃ b, inB tag s.tags = b := ⟨_, rfl⟩
      replace hv : b = true → v = (ix s.tags tag : Int) := fun h => hv (inB_iff.1 (hb.trans h))
      rw [hb] at hlook
      replace hv := Lib.hid hv
      replace hb := Lib.hid hb
      go_wp2_with fail
      exact bodyPost_ret (v := .tuple #[.int .i64 v, .bool b]) (by simp [results, Tryz.results73, go_sem]) rfl ⟨⟨v, by rw [hb.out], by rw [hb.out]; exact hv.out⟩, hS.out⟩
theorem find_any (s : St) (hok : s.ok) (tag : ByteArray) (ht : tag.size ≤ 60) (g : Nat) (p : SV) (w : World) (hs : SiteW w g s p) :
    Calls Tryz.prog 73 #[.pointer (some ⟨g, 0, none⟩), .string tag] w fun e w' => FindPost s tag g p w e w' := by
  cases hp : p.om with
  | none => exact find_none s hok tag ht g p hp w hs
  | some m => exact find_some s hok tag ht g m p hp w hs

end Go.Proofs.YtpocmijfkjjboaaGreatDoor
