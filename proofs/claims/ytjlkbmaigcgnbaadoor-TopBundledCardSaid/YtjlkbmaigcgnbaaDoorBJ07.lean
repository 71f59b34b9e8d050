/- journal.Valid and the reference's: a log is valid. site: the state; how a site, and the reference's, lie in memory; frames. site: Missing, Ready, Account: what is read of a site; the reference's. -/
import Derived.Test.YtjlkbmaigcgnbaaDoorBJ01
import Derived.Test.YtjlkbmaigcgnbaaDoorBJ06
import Derived.Test.YtjlkbmaigcgnbaaDoorBJ05
import Derived.Maps.AppendAt
set_option linter.unusedVariables false
namespace Go.Proofs.YtjlkbmaigcgnbaaDoor
open Go.ChangeShapes Go.WideShapes Go.ChangeAt Go.RowKit
def entOk (x : Ent) : Bool := decide (0 ≤ x.day) && decide (x.day ≤ 1000000) && decide (1 ≤ x.kind) && decide (x.kind ≤ 6) && nameB (by_ x.name)
def logV (l : List Ent) : Bool := decide (l.length ≤ 1000) && l.all entOk && decide (l.Pairwise fun a b => a.day ≤ b.day)
theorem all_takeE {p : Ent → Bool} {l : List Ent} {k : Nat} (hk : k < l.length) (h : ((l.take k).all p) = true) (hx : p l[k] = true) : ((l.take (k + 1)).all p) = true := by
  rw [List.take_succ_eq_append_getElem hk, List.all_append, h]
  simp [hx]
theorem logV_not {l : List Ent} {k : Nat} (hk : k < l.length) (hx : entOk l[k] = false) : logV l = false := by
  unfold logV
  have : l.all entOk = false := by
    cases h : l.all entOk
    · rfl
    · have := List.all_eq_true.1 h _ (List.getElem_mem hk)
      rw [hx] at this
      exact absurd this (by decide)
  rw [this]
  simp
theorem logV_fall {l : List Ent} {j : Nat} (hk : j + 1 < l.length) (h : l[j + 1].day < (l[j]'(by omega)).day) : logV l = false := by
  unfold logV
  have : ¬ l.Pairwise fun a b => a.day ≤ b.day := fun hp => by
    have := List.pairwise_iff_getElem.1 hp j (j + 1) (by omega) hk (by omega)
    omega
  rw [decide_eq_false this]
  simp
theorem pw_step {l : List Ent} {k : Nat} (hk : k < l.length) (h : (l.take k).Pairwise fun a b => a.day ≤ b.day) (hx : ∀ (j : Nat) (hj : j + 1 = k), (l[j]'(by omega)).day ≤ l[k].day) : (l.take (k + 1)).Pairwise fun a b => a.day ≤ b.day := by
  rw [List.take_succ_eq_append_getElem hk, List.pairwise_append]
  refine ⟨h, List.pairwise_singleton _ _, fun a ha b hb => ?_⟩
  obtain rfl : b = l[k] := by simpa using hb
  rw [List.mem_take_iff_getElem] at ha
  obtain ⟨i, hi, rfl⟩ := ha
  rcases Nat.lt_or_ge (i + 1) k with q | q
  · have hp := List.pairwise_iff_getElem.1 h i (k - 1) (by rw [List.length_take]; omega) (by rw [List.length_take]; omega) (by omega)
    rw [List.getElem_take, List.getElem_take] at hp
    have := hx (k - 1) (by omega)
    omega
  · exact hx i (by omega)
theorem logV_all {l : List Ent} (h0 : l.length ≤ 1000) (h1 : (l.all entOk) = true) (h2 : l.Pairwise fun a b => a.day ≤ b.day) : logV l = true := by
  unfold logV
  rw [h1, decide_eq_true h0, decide_eq_true h2]
  rfl
set_option maxRecDepth 100000 in
set_option maxHeartbeats 2000000 in
theorem jvalid_any (l : List Ent) (ao : Option Addr) (cap : Nat) (hl : l.length ≤ cap) (hc : cap ≤ 9223372036854775807) (hs : Hid (∀ x ∈ l, x.name.size ≤ 9223372036854775806)) (w : World) (ha : Hid (RowAt encE 3 w.heap.size w ao l)) :
    Calls Tryd.prog 34 #[.slice ao l.length cap] w fun e w' => e = .returned (.bool (logV l)) ∧ Below w.heap.size w w' := by
  obtain ⟨R, hR⟩ : ∃ R, logV l = R := ⟨_, rfl⟩
  rw [hR]
  replace hR := Lib.hid hR
  obtain ⟨n, hn'⟩ : ∃ n, l.length = n := ⟨_, rfl⟩
  rw [hn'] at hl ⊢
  replace hn' := Lib.hid hn'
  go_enter Tryd.func34, Tryd.ntmps34
  by_cases a1 : 1000 < n
  · have hE : Hid (R = false) := Lib.hid (by rw [← hR.out]; unfold logV; rw [hn'.out]; simp; omega)
    go_wp2_with fail
    go_ret
    exact ⟨by rw [hE.out]; rfl, Below.refl _ _⟩
  go_wp2_with fail
  go_loopg [10] n (fun g i wr => ∃ k : Nat, k ≤ n ∧ i = .int .i64 (k : Int) ∧ Hid (g = n - k ∧ ((l.take k).all entOk) = true ∧ (l.take k).Pairwise fun a b => a.day ≤ b.day) ∧ Below w.heap.size w wr ∧ Hid (RowAt encE 3 w.heap.size wr ao l))
  case atStart => exact ⟨0, Nat.zero_le _, rfl, Lib.hid ⟨rfl, rfl, List.Pairwise.nil⟩, Below.refl _ _, ha⟩
  case round =>
    clear ha
    obtain ⟨k, hk, rfl, hr, HB, ha⟩ := hrel
    by_cases hlt : k < n
    · have hkl : Hid (k < l.length) := Lib.hid (by rw [hn'.out]; exact hlt)
      have hs' := Lib.hid (hs.out _ (List.getElem_mem hkl.out))
      obtain ⟨b, off, rfl, c0, c1, c2, hb⟩ := ha.out.ent k hkl.out
      obtain ⟨x, hx⟩ : ∃ x, l[k]'hkl.out = x := ⟨_, rfl⟩
      rw [hx] at c0 c1 c2 hs'
      replace hx := Lib.hid hx
      obtain ⟨xd, xk, xn⟩ := x
      dsimp only at c0 c1 c2 hs'
      obtain ⟨b1, hb1⟩ : ∃ b1, nameB (by_ xn) = b1 := ⟨_, rfl⟩
      have HN : Hid (∀ u, Calls Tryd.prog 33 #[.string xn] u fun e w' => e = .returned (.bool (nameB (by_ xn))) ∧ Below u.heap.size u w') := Lib.hid (fun u => (isName_any xn hs'.out u).mono fun e w' h => ⟨h.1, h.2 ▸ Below.refl _ _⟩)
      rw [hb1] at HN
      replace hb1 := Lib.hid hb1
      go_upto_region 6 with fail
      generalize hWW : World.alloc _ _ = W1
      have kx : At W1 wr.heap.size 58 #[.int .i64 xd, .int .i64 xk, .string xn] := by rw [← hWW]; exact At.new' rfl
      have hbW : Below wr.heap.size wr W1 := by rw [← hWW]; exact below_al (Below.refl _ _) _
      replace ha := Lib.hid (ha.out.bel HB.size hbW)
      replace HB := below_then HB hbW
      have HBs := HB.size
      clear hWW hbW c0 c1 c2 hb
      obtain ⟨k0, k1, k2⟩ := kx.three
      have K0 := cell_regrown k0
      have K1 := cell_regrown k1
      have K2 := cell_regrown k2
      by_cases t1 : xd < 0
      · have hE : Hid (R = false) := Lib.hid (by 
          have : decide (0 ≤ xd) = false := by simp; omega
          rw [← hR.out]
          exact logV_not hkl.out (by rw [hx.out]; unfold entOk; rw [show decide (0 ≤ (Ent.mk xd xk xn).day) = false from this]; simp))
        refine wp_region_quiet_below (by kernel_rfl) (by kernel_rfl) ?_
        repeat (go_big_quiet_step ((first | with_reducible exact regrown_call HN.out)))
        refine wpQuiet_nil ?_
        intro v hb'
        have hb := below_of_regrown hb'
        replace HB := below_then HB hb
        clear hb' hb
        go_wp2_with fail
        go_ret
        exact ⟨by rw [hE.out]; rfl, HB⟩
      cases t2 : decide ((1000000 : Int) < xd)
      rotate_left
      · have t2' := of_decide_eq_true t2
        have hE : Hid (R = false) := Lib.hid (by 
          have : decide (xd ≤ 1000000) = false := by simp; omega
          rw [← hR.out]
          exact logV_not hkl.out (by rw [hx.out]; unfold entOk; rw [show decide ((Ent.mk xd xk xn).day ≤ 1000000) = false from this]; simp))
        refine wp_region_quiet_below (by kernel_rfl) (by kernel_rfl) ?_
        repeat (go_big_quiet_step ((first | with_reducible exact regrown_call HN.out)))
        refine wpQuiet_nil ?_
        intro v hb'
        have hb := below_of_regrown hb'
        replace HB := below_then HB hb
        clear hb' hb
        go_wp2_with fail
        go_ret
        exact ⟨by rw [hE.out]; rfl, HB⟩
      have t2' := Lib.hid (of_decide_eq_false t2)
      by_cases t3 : xk < 1
      · have hE : Hid (R = false) := Lib.hid (by 
          have : decide (1 ≤ xk) = false := by simp; omega
          rw [← hR.out]
          exact logV_not hkl.out (by rw [hx.out]; unfold entOk; rw [show decide (1 ≤ (Ent.mk xd xk xn).kind) = false from this]; simp))
        refine wp_region_quiet_below (by kernel_rfl) (by kernel_rfl) ?_
        repeat (go_big_quiet_step ((first | with_reducible exact regrown_call HN.out)))
        refine wpQuiet_nil ?_
        intro v hb'
        have hb := below_of_regrown hb'
        replace HB := below_then HB hb
        clear hb' hb
        go_wp2_with fail
        go_ret
        exact ⟨by rw [hE.out]; rfl, HB⟩
      by_cases t4 : 6 < xk
      · have hE : Hid (R = false) := Lib.hid (by 
          have : decide (xk ≤ 6) = false := by simp; omega
          rw [← hR.out]
          exact logV_not hkl.out (by rw [hx.out]; unfold entOk; rw [show decide ((Ent.mk xd xk xn).kind ≤ 6) = false from this]; simp))
        refine wp_region_quiet_below (by kernel_rfl) (by kernel_rfl) ?_
        repeat (go_big_quiet_step ((first | with_reducible exact regrown_call HN.out)))
        refine wpQuiet_nil ?_
        intro v hb'
        have hb := below_of_regrown hb'
        replace HB := below_then HB hb
        clear hb' hb
        go_wp2_with fail
        go_ret
        exact ⟨by rw [hE.out]; rfl, HB⟩
      cases b1
      · have hE : Hid (R = false) := Lib.hid (by 
          rw [← hR.out]
          exact logV_not hkl.out (by rw [hx.out]; unfold entOk; rw [show nameB (by_ (Ent.mk xd xk xn).name) = false from hb1.out]; simp))
        refine wp_region_quiet_below (by kernel_rfl) (by kernel_rfl) ?_
        repeat (go_big_quiet_step ((first | with_reducible exact regrown_call HN.out)))
        refine wpQuiet_nil ?_
        intro v hb'
        have hb := below_of_regrown hb'
        replace HB := below_then HB hb
        clear hb' hb
        go_wp2_with fail
        go_ret
        exact ⟨by rw [hE.out]; rfl, HB⟩
      have hok : Hid (entOk (l[k]'hkl.out) = true) := Lib.hid (by
        rw [hx.out]
        unfold entOk
        have := t2'.out
        rw [show nameB (by_ (Ent.mk xd xk xn).name) = true from hb1.out]
        simp
        omega)
      rcases k with _ | j
      · have z0 : decide ((0 : Int) < ((0 : Nat) : Int)) = false := by decide
        refine wp_region_quiet_below (by kernel_rfl) (by kernel_rfl) ?_
        repeat (go_big_quiet_step ((first | with_reducible exact regrown_call HN.out)))
        refine wpQuiet_nil ?_
        intro v hb'
        have hb := below_of_regrown hb'
        replace HB := below_then HB hb
        replace ha := Lib.hid (ha.out.bel (by first | exact HBs | exact HB.size) hb)
        clear hb' hb
        go_wp2_with fail
        go_roundg (n - (0 + 1))
        case measure => have := hr.out.1; omega
        case rel => exact ⟨0 + 1, by omega, by go_num, Lib.hid ⟨rfl, all_takeE hkl.out hr.out.2.1 hok.out, pw_step hkl.out hr.out.2.2 (fun j hj => absurd hj (by omega))⟩, HB, ha⟩
      · have hjl : Hid (j < l.length) := Lib.hid (by have := hkl.out; omega)
        obtain ⟨b', off', e, p0, p1, p2, hb⟩ := ha.out.ent j hjl.out
        simp only [Option.some.injEq, Addr.mk.injEq, and_true] at e
        obtain ⟨rfl, rfl⟩ := e
        obtain ⟨y, hy⟩ : ∃ y, (l[j]'hjl.out).day = y := ⟨_, rfl⟩
        rw [hy] at p0
        replace hy := Lib.hid hy
        clear p1 p2 hb
        have P0 := cell_regrown p0
        have hjw : IntKind.i64.wrap (((j + 1 : Nat) : Int) - 1) = (j : Int) := by rw [IntWalk.i64_in _ (by omega)]; omega
        have hjp : decide ((0 : Int) < ((j + 1 : Nat) : Int)) = true := by simp
        by_cases t6 : xd < y
        · have t6' := Lib.hid t6
          have hE : Hid (R = false) := Lib.hid (by rw [← hR.out]; exact logV_fall hkl.out (by rw [hx.out, hy.out]; exact t6'.out))
          refine wp_region_quiet_below (by kernel_rfl) (by kernel_rfl) ?_
          repeat (go_big_quiet_step ((first | with_reducible exact regrown_call HN.out)))
          refine wpQuiet_nil ?_
          intro v hb'
          have hb := below_of_regrown hb'
          replace HB := below_then HB hb
          clear hb' hb
          go_wp2_with fail
          go_ret
          exact ⟨by rw [hE.out]; rfl, HB⟩
        · have t6' : Hid (y ≤ xd) := Lib.hid (by omega)
          refine wp_region_quiet_below (by kernel_rfl) (by kernel_rfl) ?_
          repeat (go_big_quiet_step ((first | with_reducible exact regrown_call HN.out)))
          refine wpQuiet_nil ?_
          intro v hb'
          have hb := below_of_regrown hb'
          replace HB := below_then HB hb
          replace ha := Lib.hid (ha.out.bel (by first | exact HBs | exact HB.size) hb)
          clear hb' hb
          go_wp2_with fail
          go_roundg (n - (j + 1 + 1))
          case measure => have := hr.out.1; omega
          case rel => exact ⟨j + 1 + 1, by omega, by go_num, Lib.hid ⟨rfl, all_takeE hkl.out hr.out.2.1 hok.out, pw_step hkl.out hr.out.2.2 (fun i hi => by obtain rfl : i = j := (by omega); rw [hx.out, hy.out]; exact t6'.out)⟩, HB, ha⟩
    · have hE : Hid (R = true) := Lib.hid (by
        have h0 := hn'.out
        have h1 := hr.out.2
        rw [List.take_of_length_le (by omega)] at h1
        rw [← hR.out]
        exact logV_all (by omega) h1.1 h1.2)
      go_wp2_with fail
      go_ret
      exact ⟨by rw [hE.out]; rfl, HB⟩
def lastDay (l : List Ent) : Int := match l.getLast? with | some x => x.day | none => 0
theorem lastDay_take {l : List Ent} {k : Nat} (hk : k < l.length) : lastDay (l.take (k + 1)) = l[k].day := by
  unfold lastDay
  rw [List.take_succ_eq_append_getElem hk, List.getLast?_concat]
theorem lastDay_prev {l : List Ent} {k j : Nat} (hj : j + 1 = k) (hk : k ≤ l.length) : lastDay (l.take k) = (l[j]'(by omega)).day := by
  subst hj
  exact lastDay_take (by omega)
end Go.Proofs.YtjlkbmaigcgnbaaDoor
set_option linter.unusedVariables false
namespace Go.Proofs.YtjlkbmaigcgnbaaDoor
open Go.ChangeShapes Go.WideShapes Go.ChangeAt Go.RowKit Go.Maps Go.ChangeMaps Go.WideMaps
structure St where
  tags : List ByteArray
  at_ : List Nat
  member : ByteArray
  open_ : List ByteArray
  kept : List Ent
  poured : Bool
def missS : List ByteArray → List Nat → List ByteArray
  | t :: ts, a :: r => if a = 2 then missS ts r else t :: missS ts r
  | _, _ => []
def readyS (s : St) : Bool := (missS s.tags s.at_).isEmpty && s.open_.isEmpty
def givenS (s : St) (x : Ent) : Int :=
  if logV [x] = false then 1 else if 1000 ≤ s.kept.length then 4 else if 0 < s.kept.length ∧ x.day < lastDay s.kept then 17 else if s.poured then 13 else 0
def moveS (s : St) (name : ByteArray) (a b : Nat) : Int × St :=
  if inB name s.tags = false then (9, s) else if (s.at_.getD (ix s.tags name) 0) ≠ a then (13, s) else (0, { s with at_ := s.at_.set (ix s.tags name) b })
def checkS (s : St) (name : ByteArray) : Int × St := if inB name s.open_ then (15, s) else (0, { s with open_ := s.open_ ++ [name] })
def doneS (s : St) (name : ByteArray) : Int × St := if inB name s.open_ = false then (9, s) else (0, { s with open_ := s.open_.eraseIdx (ix s.open_ name) })
def pourS (s : St) (name : ByteArray) : Int × St := if name ≠ s.member then (9, s) else if readyS s = false then (24, s) else (0, { s with poured := true })
def actS (s : St) (x : Ent) : Int × St :=
  if x.kind = 1 then moveS s x.name 0 1 else if x.kind = 2 then moveS s x.name 1 2 else if x.kind = 6 then moveS s x.name 1 0
  else if x.kind = 3 then checkS s x.name else if x.kind = 4 then doneS s x.name else pourS s x.name
def doS (s : St) (x : Ent) : Int × St :=
  if givenS s x ≠ 0 then (givenS s x, s) else if (actS s x).1 ≠ 0 then ((actS s x).1, s) else (0, { (actS s x).2 with kept := (actS s x).2.kept ++ [x] })
structure St.ok (s : St) : Prop where
  nodup : s.tags.Nodup
  len : s.at_.length = s.tags.length
  le : ∀ a ∈ s.at_, a ≤ 2
  tagsN : s.tags.length ≤ 1000
  keptN : s.kept.length ≤ 1000
  openN : s.open_.length ≤ s.kept.length
  tagsZ : ∀ x ∈ s.tags, x.size ≤ 60
  openZ : ∀ x ∈ s.open_, x.size ≤ 60
  keptZ : ∀ x ∈ s.kept, x.name.size ≤ 60
structure SV where
  vt : Value
  vw : Value
  vo : Value
  ve : Value
  om : Option Nat
def SV.fp (g : Nat) (p : SV) : List (Option Nat) := [some g, p.vt.ownBlock, p.vw.ownBlock, p.vo.ownBlock, p.ve.ownBlock, p.om]
structure SiteW (w : World) (g : Nat) (s : St) (p : SV) : Prop where
  own : At w g 84 #[p.vt, p.vw, .string s.member, p.vo, p.ve, .bool s.poured, .map p.om]
  tags : Row w 9 1 encS p.vt s.tags
  wher : Row w 3 1 encN p.vw s.at_
  opn : Row w 9 1 encS p.vo s.open_
  ents : Row w 58 3 encE p.ve s.kept
  idx : ∀ m, p.om = some m → IdxAt w m s.tags.length s.tags
  sep : (p.fp g).Pairwise Dj
structure RV where
  vl : Value
  va : Value
  vc : Value
  vk : Value
def RV.fp (g : Nat) (p : RV) : List (Option Nat) := [some g, p.vl.ownBlock, p.va.ownBlock, p.vc.ownBlock, p.vk.ownBlock]
section
variable {w w' : World} {g : Nat} {s : St} {F : List (Option Nat)}
theorem SiteW.lt {p : SV} (h : SiteW w g s p) {b : Nat} (hb : some b ∈ p.fp g) : b < w.heap.size := by
  simp only [SV.fp, List.mem_cons, List.not_mem_nil, or_false] at hb
  rcases hb with h1 | h1 | h1 | h1 | h1 | h1
  · injection h1 with h1; rw [h1]; exact h.own.lt
  · exact h.tags.lt h1.symm
  · exact h.wher.lt h1.symm
  · exact h.opn.lt h1.symm
  · exact h.ents.lt h1.symm
  · exact (h.idx b h1.symm).lt
theorem SiteW.keep {p : SV} (h : SiteW w g s p) (hb : ∀ b, some b ∈ p.fp g → w'.heap[b]? = w.heap[b]?) : SiteW w' g s p where
  own := (hb g (by simp [SV.fp])).trans h.own
  tags := h.tags.keep fun b e => hb b (by simp [SV.fp, e])
  wher := h.wher.keep fun b e => hb b (by simp [SV.fp, e])
  opn := h.opn.keep fun b e => hb b (by simp [SV.fp, e])
  ents := h.ents.keep fun b e => hb b (by simp [SV.fp, e])
  idx := fun m e => (h.idx m e).same (hb m (by simp [SV.fp, e]))
  sep := h.sep
theorem SiteW.bel {p : SV} (h : SiteW w g s p) (hb : Below w.heap.size w w') : SiteW w' g s p := h.keep fun b e => hb.block b (h.lt e)
def SDone (w w' : World) (g : Nat) (s' : St) (p : SV) : Prop := ∃ p' : SV, SiteW w' g s' p' ∧ Frm (p.fp g) w w' ∧ ∀ b, some b ∈ p'.fp g → some b ∈ p.fp g ∨ w.heap.size ≤ b
theorem SDone.same {p : SV} (h : SiteW w g s p) (hb : Below w.heap.size w w') : SDone w w' g s p := ⟨p, h.bel hb, Frm.of_below hb, fun _ h => .inl h⟩
theorem SDone.then {p p' : SV} {w1 : World} {s' : St} (hf : Frm (p.fp g) w w1) (hm : ∀ b, some b ∈ p'.fp g → some b ∈ p.fp g ∨ w.heap.size ≤ b) (h : SDone w1 w' g s' p') : SDone w w' g s' p := by
  obtain ⟨q, h1, h2, h3⟩ := h
  refine ⟨q, h1, hf.trans h2 hm, fun b hb => ?_⟩
  rcases h3 b hb with k | k
  · exact hm b k
  · exact .inr (Nat.le_trans hf.size k)
end
end Go.Proofs.YtjlkbmaigcgnbaaDoor
set_option linter.unusedVariables false
namespace Go.Proofs.YtjlkbmaigcgnbaaDoor
open Go.ChangeShapes Go.WideShapes Go.ChangeAt Go.RowKit
theorem miss_step {ts : List ByteArray} {r : List Nat} {k : Nat} (h1 : k < ts.length) (h2 : k < r.length) : missS (ts.drop k) (r.drop k) = if r[k] = 2 then missS (ts.drop (k + 1)) (r.drop (k + 1)) else ts[k] :: missS (ts.drop (k + 1)) (r.drop (k + 1)) := by
  rw [List.drop_eq_getElem_cons h1, List.drop_eq_getElem_cons h2]
  rfl
theorem miss_end {ts : List ByteArray} {r : List Nat} {k : Nat} (h1 : ts.length ≤ k) : missS (ts.drop k) (r.drop k) = [] := by
  rw [List.drop_eq_nil_of_le h1]
  rfl
set_option maxRecDepth 100000 in
set_option maxHeartbeats 1000000 in
theorem missing_any (s : St) (hok : s.ok) (g : Nat) (p : SV) (w : World) (hs : SiteW w g s p) :
    Calls Tryd.prog 84 #[.pointer (some ⟨g, 0, none⟩)] w fun e w' => (∃ v, e = .returned v ∧ Hid (w'.ownsRow w.heap.size 9 1 v (missS s.tags s.at_).length ((missS s.tags s.at_).flatMap encS))) ∧ Below w.heap.size w w' := by
  obtain ⟨i0, hi, hz0, hz1, hz2⟩ := info_parts infoStr
  obtain ⟨ao, cap, hvt, hl, hc, -, -⟩ := hs.tags.view encS_len
  obtain ⟨aw, cw, hvw, hl2, hc2, -, -⟩ := hs.wher.view encN_len
  rw [hok.len] at hl2 hvw
  obtain ⟨n, hn⟩ : ∃ n, s.tags.length = n := ⟨_, rfl⟩
  have hn1 : n ≤ 1000 := by have := hok.tagsN; omega
  have hlen := hok.len
  rw [hn] at hl hl2 hlen hvt hvw
  replace hn := Lib.hid hn
  replace hlen := Lib.hid hlen
  have hle := Lib.hid hok.le
  replace hs := Lib.hid hs
  clear hok
  have z0 : w.cell? ⟨g, 0, none⟩ = some (.slice ao n cap) := by
    have := hs.out.own.c 0
    rw [hvt] at this
    exact this
  replace hvt := Lib.hid hvt
  replace hvw := Lib.hid hvw
  go_enter Tryd.func84, Tryd.ntmps84
  go_wp2_with fail
  go_loopg [13, 3] n (fun g1 i v wr => ∃ (k : Nat) (out : List ByteArray) (v0 : Value), v0 = v ∧ k ≤ n ∧ i = .int .i64 (k : Int) ∧ Hid (g1 = n - k ∧ out ++ missS (s.tags.drop k) (s.at_.drop k) = missS s.tags s.at_) ∧ Below w.heap.size w wr ∧ Hid (SiteW wr g s p) ∧ Hid (wr.ownsRow w.heap.size 9 1 v out.length (out.flatMap encS)) ∧ Hid (out.length ≤ k))
  case atStart => exact ⟨0, [], _, rfl, Nat.zero_le _, rfl, Lib.hid ⟨rfl, rfl⟩, Below.refl _ _, hs, Lib.hid (World.ownsRow_nil _ _ _ _), Lib.hid (Nat.le_refl _)⟩
  case round =>
    have hs0 := hs
    clear hs z0
    obtain ⟨k, out, v, rfl, hk, rfl, hr, HB, hs, ho, hm⟩ := hrel
    have z0 : wr.cell? ⟨g, 0, none⟩ = some (.slice ao n cap) := by
      have := hs.out.own.c 0
      rw [hvt.out] at this
      exact this
    have z1 : wr.cell? ⟨g, 1, none⟩ = some (.slice aw n cw) := by
      have := hs.out.own.c 1
      rw [hvw.out] at this
      exact this
    by_cases hlt : k < n
    · have hkt : Hid (k < s.tags.length) := Lib.hid (by rw [hn.out]; exact hlt)
      have hka : Hid (k < s.at_.length) := Lib.hid (by rw [hlen.out]; exact hlt)
      obtain ⟨b, off, rfl, d0, hb⟩ := ((show Row wr _ 1 encS (.slice ao n cap) s.tags from hvt.out ▸ hs.out.tags).at encS_len).one (f := fun s => .string s) k hkt.out
      obtain ⟨x, hx⟩ : ∃ x, s.tags[k]'hkt.out = x := ⟨_, rfl⟩
      rw [hx] at d0
      replace hx := Lib.hid hx
      obtain ⟨b2, off2, rfl, f0, hb2⟩ := ((show Row wr _ 1 encN (.slice aw n cw) s.at_ from hvw.out ▸ hs.out.wher).at encN_len).one (f := fun n : Nat => Value.int .i64 (n : Int)) k hka.out
      obtain ⟨y, hy⟩ : ∃ y, s.at_[k]'hka.out = y := ⟨_, rfl⟩
      rw [hy] at f0
      replace hy := Lib.hid hy
      by_cases h2 : y = 2
      · subst h2
        have hst : Hid (out ++ missS (s.tags.drop (k + 1)) (s.at_.drop (k + 1)) = missS s.tags s.at_) := Lib.hid (by
          have := hr.out.2
          rwa [miss_step hkt.out hka.out, hy.out, if_pos rfl] at this)
        clear hb hb2
        go_wp2_with fail
        go_roundg (n - (k + 1))
        case measure => have := hr.out.1; omega
        case rel => exact ⟨k + 1, out, _, rfl, by omega, by go_num, Lib.hid ⟨rfl, hst.out⟩, HB, hs, ho, Lib.hid (by have := hm.out; omega)⟩
      · have h3 : ((y : Int) != 2) = true := by simp; omega
        have hst : Hid ((out ++ [x]) ++ missS (s.tags.drop (k + 1)) (s.at_.drop (k + 1)) = missS s.tags s.at_) := Lib.hid (by
          have := hr.out.2
          rwa [miss_step hkt.out hka.out, hy.out, if_neg h2, hx.out, List.append_cons] at this)
        clear hb hb2 h2
        go_wp2_with (at_builtin; refine wpList_append_own_at _ rfl _ _ 81 rfl w.heap.size 9 i0 (.string ⟨#[]⟩) 1 16 Tryd.underlying81 hi hz0 hz1 hz2 rfl (by decide) _ _ _ rfl (World.ownsRow.alloc ho.out _) ⟨wr.heap.size, 0, none⟩ 1 1 [.string x] rfl rfl (cell_one_new _ _ _) (by intro u hu; simp at hu; subst hu; rfl) (by have := hm.out; unfold maxLen; omega) (by have := hm.out; omega) (by have := HB.size; simp; omega) ?_)
        intro v' w1 ho1 hg1 hnil hloc
        have hg2 : wr.grownBy w1 v.ownBlock := (World.grownBy_alloc _ _ _).trans hg1
        have hb1 : Below w.heap.size w w1 := HB.grown hg2 (by have := HB.size; omega) (fun j hj => by
          obtain ⟨_, ⟨q1, _⟩ | ⟨q, _, _, q1, q2, _⟩⟩ := ho.out
          · rw [q1] at hj; cases hj
          · rw [q1] at hj; injection hj with hj; have hj : q = j := hj; omega)
        have hs1 : Hid (SiteW w1 g s p) := Lib.hid (hs0.out.bel hb1)
        have ho2 : Hid (w1.ownsRow w.heap.size 9 1 v' (out ++ [x]).length ((out ++ [x]).flatMap encS)) := Lib.hid (by
          rw [List.length_append, List.flatMap_append]
          exact ho1)
        clear hg1 hg2 hnil hloc ho1 z0 z1 d0 f0
        go_wp2_with fail
        go_roundg (n - (k + 1))
        case measure => have := hr.out.1; omega
        case rel => exact ⟨k + 1, out ++ [x], _, rfl, by omega, by go_num, Lib.hid ⟨rfl, hst.out⟩, hb1, hs1, ho2, Lib.hid (by have := hm.out; rw [List.length_append]; simp; omega)⟩
    · have hE : Hid (out = missS s.tags s.at_) := Lib.hid (by
        have := hr.out.2
        rwa [miss_end (by have := hn.out; omega), List.append_nil] at this)
      go_wp2_with fail
      go_ret
      exact ⟨⟨v, rfl, Lib.hid (by rw [← hE.out]; exact ho.out)⟩, HB⟩
end Go.Proofs.YtjlkbmaigcgnbaaDoor
