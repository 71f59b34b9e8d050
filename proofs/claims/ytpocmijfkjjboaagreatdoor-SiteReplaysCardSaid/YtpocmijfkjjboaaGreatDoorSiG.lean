/- site: the state; how a site, and the reference's, lie in memory; frames. -/
import Derived.Test.YtpocmijfkjjboaaGreatDoorSiE
import Derived.Test.YtpocmijfkjjboaaGreatDoorSiF
import Derived.Test.YtpocmijfkjjboaaGreatDoorEnB
set_option linter.unusedVariables false
namespace Go.Proofs.YtpocmijfkjjboaaGreatDoor
open Go.ChangeShapes Go.WideShapes Go.ChangeAt Go.RowKit Go.Maps Go.ChangeMaps Go.WideMaps

/-- A site: tags, where each bundle is, the member, the open checks, the entries, whether concrete was poured. -/
structure St where
  tags : List ByteArray
  at_ : List Nat
  member : ByteArray
  open_ : List ByteArray
  kept : List Ent
  poured : Bool
def missS : List ByteArray → List Nat → List ByteArray
  | t :: ts, a :: r => if a = 2 then missS ts r else t :: missS ts r
  | _, _ => []
def readyS (s : St) : Bool := (missS s.tags s.at_).isEmpty && s.open_.isEmpty
def dayS (s : St) : Option Int := s.kept.getLast?.map (·.day)
def givenS (s : St) (x : Ent) : Int :=
  if logV [x] = false then 1 else if 1000 ≤ s.kept.length then 4 else if 0 < s.kept.length ∧ x.day < lastDay s.kept then 17 else if s.poured then 13 else 0
def moveS (s : St) (name : ByteArray) (a b : Nat) : Int × St :=
  if inB name s.tags = false then (9, s) else if (s.at_.getD (ix s.tags name) 0) ≠ a then (13, s) else (0, { s with at_ := s.at_.set (ix s.tags name) b })
def checkS (s : St) (name : ByteArray) : Int × St := if inB name s.open_ then (15, s) else (0, { s with open_ := s.open_ ++ [name] })
def doneS (s : St) (name : ByteArray) : Int × St := if inB name s.open_ = false then (9, s) else (0, { s with open_ := s.open_.eraseIdx (ix s.open_ name) })
def pourS (s : St) (name : ByteArray) : Int × St := if name ≠ s.member then (9, s) else if readyS s = false then (24, s) else (0, { s with poured := true })
def actS (s : St) (x : Ent) : Int × St :=
  if x.kind = 1 then moveS s x.name 0 1 else if x.kind = 2 then moveS s x.name 1 2 else if x.kind = 6 then moveS s x.name 1 0
  else if x.kind = 3 then checkS s x.name else if x.kind = 4 then doneS s x.name else pourS s x.name
/-- What an entry does: the error number, the state behind it. -/
def doS (s : St) (x : Ent) : Int × St :=
  if givenS s x ≠ 0 then (givenS s x, s) else if (actS s x).1 ≠ 0 then ((actS s x).1, s) else (0, { (actS s x).2 with kept := (actS s x).2.kept ++ [x] })
structure St.ok (s : St) : Prop where
  nodup : s.tags.Nodup
  len : s.at_.length = s.tags.length
  le : ∀ a ∈ s.at_, a ≤ 2
  tagsN : s.tags.length ≤ 1000
  keptN : s.kept.length ≤ 1000
  openN : s.open_.length ≤ s.kept.length
  tagsZ : ∀ x ∈ s.tags, x.size ≤ 60
  openZ : ∀ x ∈ s.open_, x.size ≤ 60
  keptZ : ∀ x ∈ s.kept, x.name.size ≤ 60

/-! ### a site, and the reference's, in memory -/
structure SV where
  vt : Value
  vw : Value
  vo : Value
  ve : Value
  om : Option Nat
def SV.fp (g : Nat) (p : SV) : List (Option Nat) := [some g, p.vt.ownBlock, p.vw.ownBlock, p.vo.ownBlock, p.ve.ownBlock, p.om]
structure SiteW (w : World) (g : Nat) (s : St) (p : SV) : Prop where
  own : At w g 71 #[p.vt, p.vw, .string s.member, p.vo, p.ve, .bool s.poured, .map p.om]
  tags : Row w 9 1 encS p.vt s.tags
  wher : Row w 3 1 encN p.vw s.at_
  opn : Row w 9 1 encS p.vo s.open_
  ents : Row w 39 3 encE p.ve s.kept
  idx : ∀ m, p.om = some m → IdxAt w m s.tags.length s.tags
  sep : (p.fp g).Pairwise Dj
structure RV where
  vl : Value
  va : Value
  vc : Value
  vk : Value
def RV.fp (g : Nat) (p : RV) : List (Option Nat) := [some g, p.vl.ownBlock, p.va.ownBlock, p.vc.ownBlock, p.vk.ownBlock]
structure RefW (w : World) (g : Nat) (s : St) (p : RV) : Prop where
  own : At w g 66 #[p.vl, p.va, .string s.member, p.vc, p.vk, .bool s.poured]
  tags : ∃ l : List Bun, l.map (·.tag) = s.tags ∧ Row w 73 4 encB p.vl l
  wher : Row w 3 1 encN p.va s.at_
  opn : Row w 9 1 encS p.vc s.open_
  ents : Row w 39 3 encE p.vk s.kept
  sep : (p.fp g).Pairwise Dj
section
variable {w w' : World} {g : Nat} {s : St} {F : List (Option Nat)}
theorem SiteW.lt {p : SV} (h : SiteW w g s p) {b : Nat} (hb : some b ∈ p.fp g) : b < w.heap.size := by
  simp only [SV.fp, List.mem_cons, List.not_mem_nil, or_false] at hb
  rcases hb with h1 | h1 | h1 | h1 | h1 | h1
  · injection h1 with h1; rw [h1]; exact h.own.lt
  · exact h.tags.lt h1.symm
  · exact h.wher.lt h1.symm
  · exact h.opn.lt h1.symm
  · exact h.ents.lt h1.symm
  · exact (h.idx b h1.symm).lt
theorem SiteW.keep {p : SV} (h : SiteW w g s p) (hb : ∀ b, some b ∈ p.fp g → w'.heap[b]? = w.heap[b]?) : SiteW w' g s p where
  own := (hb g (by simp [SV.fp])).trans h.own
  tags := h.tags.keep fun b e => hb b (by simp [SV.fp, e])
  wher := h.wher.keep fun b e => hb b (by simp [SV.fp, e])
  opn := h.opn.keep fun b e => hb b (by simp [SV.fp, e])
  ents := h.ents.keep fun b e => hb b (by simp [SV.fp, e])
  idx := fun m e => (h.idx m e).same (hb m (by simp [SV.fp, e]))
  sep := h.sep
theorem SiteW.frm {p : SV} (h : SiteW w g s p) (hf : Frm F w w') (hd : ∀ b, some b ∈ p.fp g → some b ∉ F) : SiteW w' g s p := h.keep fun b e => hf.block b (h.lt e) (hd b e)
theorem SiteW.bel {p : SV} (h : SiteW w g s p) (hb : Below w.heap.size w w') : SiteW w' g s p := h.keep fun b e => hb.block b (h.lt e)
theorem RefW.lt {p : RV} (h : RefW w g s p) {b : Nat} (hb : some b ∈ p.fp g) : b < w.heap.size := by
  obtain ⟨l, _, hl⟩ := h.tags
  simp only [RV.fp, List.mem_cons, List.not_mem_nil, or_false] at hb
  rcases hb with h1 | h1 | h1 | h1 | h1
  · injection h1 with h1; rw [h1]; exact h.own.lt
  · exact hl.lt h1.symm
  · exact h.wher.lt h1.symm
  · exact h.opn.lt h1.symm
  · exact h.ents.lt h1.symm
theorem RefW.keep {p : RV} (h : RefW w g s p) (hb : ∀ b, some b ∈ p.fp g → w'.heap[b]? = w.heap[b]?) : RefW w' g s p where
  own := (hb g (by simp [RV.fp])).trans h.own
  tags := by
    obtain ⟨l, e, hl⟩ := h.tags
    exact ⟨l, e, hl.keep fun b e => hb b (by simp [RV.fp, e])⟩
  wher := h.wher.keep fun b e => hb b (by simp [RV.fp, e])
  opn := h.opn.keep fun b e => hb b (by simp [RV.fp, e])
  ents := h.ents.keep fun b e => hb b (by simp [RV.fp, e])
  sep := h.sep
theorem RefW.frm {p : RV} (h : RefW w g s p) (hf : Frm F w w') (hd : ∀ b, some b ∈ p.fp g → some b ∉ F) : RefW w' g s p := h.keep fun b e => hf.block b (h.lt e) (hd b e)
theorem RefW.bel {p : RV} (h : RefW w g s p) (hb : Below w.heap.size w w') : RefW w' g s p := h.keep fun b e => hb.block b (h.lt e)
/-- A method has left the site in state s'. -/
def SDone (w w' : World) (g : Nat) (s' : St) (p : SV) : Prop := ∃ p' : SV, SiteW w' g s' p' ∧ Frm (p.fp g) w w' ∧ ∀ b, some b ∈ p'.fp g → some b ∈ p.fp g ∨ w.heap.size ≤ b
def RDone (w w' : World) (g : Nat) (s' : St) (p : RV) : Prop := ∃ p' : RV, RefW w' g s' p' ∧ Frm (p.fp g) w w' ∧ ∀ b, some b ∈ p'.fp g → some b ∈ p.fp g ∨ w.heap.size ≤ b
theorem SDone.same {p : SV} (h : SiteW w g s p) (hb : Below w.heap.size w w') : SDone w w' g s p := ⟨p, h.bel hb, Frm.of_below hb, fun _ h => .inl h⟩
theorem RDone.same {p : RV} (h : RefW w g s p) (hb : Below w.heap.size w w') : RDone w w' g s p := ⟨p, h.bel hb, Frm.of_below hb, fun _ h => .inl h⟩
theorem SDone.then {p p' : SV} {w1 : World} {s' : St} (hf : Frm (p.fp g) w w1) (hm : ∀ b, some b ∈ p'.fp g → some b ∈ p.fp g ∨ w.heap.size ≤ b) (h : SDone w1 w' g s' p') : SDone w w' g s' p := by
  obtain ⟨q, h1, h2, h3⟩ := h
  refine ⟨q, h1, hf.trans h2 hm, fun b hb => ?_⟩
  rcases h3 b hb with k | k
  · exact hm b k
  · exact .inr (Nat.le_trans hf.size k)
theorem RDone.then {p p' : RV} {w1 : World} {s' : St} (hf : Frm (p.fp g) w w1) (hm : ∀ b, some b ∈ p'.fp g → some b ∈ p.fp g ∨ w.heap.size ≤ b) (h : RDone w1 w' g s' p') : RDone w w' g s' p := by
  obtain ⟨q, h1, h2, h3⟩ := h
  refine ⟨q, h1, hf.trans h2 hm, fun b hb => ?_⟩
  rcases h3 b hb with k | k
  · exact hm b k
  · exact .inr (Nat.le_trans hf.size k)
end

end Go.Proofs.YtpocmijfkjjboaaGreatDoor
