/- site.New. the reference's New. the reference's New at every slice. site's laws: large. site's laws: a site and the reference's side by side. -/
import Derived.Test.YtjlkbmaigcgnbaaDoorBJ11
import Derived.Deep.OwnRows
import Derived.Laws.OwnMore
import Derived.Deep.AppendLies
import Derived.Test.YtjlkbmaigcgnbaaDoorBJ04
import Derived.Test.YtjlkbmaigcgnbaaDoorBJ08
set_option linter.unusedVariables false
namespace Go.Proofs.YtjlkbmaigcgnbaaDoor
open Go.ChangeShapes Go.WideShapes Go.ChangeAt Go.RowKit
theorem infoInt : (Tryd.prog.info? 3).map (fun i => (i.zero, i.size, i.bytes)) = some (some (.int .i64 0), 1, 8) := by kernel_rfl
def newOk (l : List Bun) (m : ByteArray) : Bool := bunV l && nameB (by_ m)
def st0 (l : List Bun) (m : ByteArray) : St := ⟨l.map (·.tag), List.replicate l.length 0, m, [], [], false⟩
theorem st0_ok (l : List Bun) (m : ByteArray) (h : newOk l m = true) (hs : ∀ x ∈ l, x.tag.size ≤ 60 ∧ x.mark.size ≤ 60) : (st0 l m).ok := by
  unfold newOk bunV at h
  simp only [Bool.and_eq_true, decide_eq_true_eq] at h
  exact ⟨h.1.2, by simp [st0], by intro a ha; simp [st0] at ha; omega, by simpa [st0] using h.1.1.1, by simp [st0], by simp [st0], by
    intro x hx
    obtain ⟨b, hb, rfl⟩ := List.mem_map.1 hx
    exact (hs b hb).1, by simp [st0], by simp [st0]⟩
theorem row_zero (w : World) (n : Nat) (hn : n ≤ 1000) : Row (w.alloc (.cells (madeCells #[.int .i64 0] n) 3)) 3 1 encN (.slice (some ⟨w.heap.size, 0, none⟩) n n) (List.replicate n 0) := by
  have e : (List.replicate n 0).flatMap encN = List.replicate n (Value.int .i64 0) := by
    induction n with
    | zero => rfl
    | succ n ih => rw [List.replicate_succ, List.flatMap_cons, ih (by omega), List.replicate_succ]; rfl
  refine ⟨by rw [flat_len encN_len], .inr ⟨w.heap.size, n, _, by rw [List.length_replicate], Nat.zero_le _, heap_alloc_new w _, by rw [List.length_replicate]; exact Nat.le_refl _, by unfold maxLen; omega, by rw [size_madeCells]; omega, ?_⟩⟩
  rw [e, toList_madeCells_one, List.length_replicate, Nat.mul_one, List.take_of_length_le (by simp)]
structure NewAt (w w1 wr : World) (n : Nat) (m : ByteArray) (out : List ByteArray) (vt : Value) : Prop where
  own : At wr (w1.heap.size + 1) 84 #[vt, .slice (some ⟨w1.heap.size, 0, none⟩) n n, .string m, .slice none 0 0, .slice none 0 0, .bool false, .map none]
  tags : wr.ownsRow w.heap.size 9 1 vt out.length (out.flatMap encS)
  wher : Row wr 3 1 encN (.slice (some ⟨w1.heap.size, 0, none⟩) n n) (List.replicate n 0)
  d1 : vt.ownBlock ≠ some (w1.heap.size + 1)
  d2 : vt.ownBlock ≠ some w1.heap.size
theorem own_ge0 {w : World} {base n : Nat} {e : TypeId} {sz : Nat} {v : Value} {xs : List Value} (h : w.ownsRow base e sz v n xs) {j : Nat} (hj : v.ownBlock = some j) : base ≤ j := by
  obtain ⟨_, ⟨h1, _⟩ | ⟨g, cap, cur, h1, h2, _⟩⟩ := h
  · rw [h1] at hj; cases hj
  · rw [h1] at hj
    have hj : some g = some j := hj
    injection hj with hj
    omega
theorem NewAt.site {w w1 wr : World} {n : Nat} {m : ByteArray} {l : List Bun} {vt : Value} (hb : w.heap.size ≤ w1.heap.size) (hn : n = l.length) (h : NewAt w w1 wr n m (l.map (·.tag)) vt) : ∃ p, SiteW wr (w1.heap.size + 1) (st0 l m) p ∧ ∀ b, some b ∈ p.fp (w1.heap.size + 1) → w.heap.size ≤ b := by
  subst hn
  refine ⟨⟨vt, .slice (some ⟨w1.heap.size, 0, none⟩) l.length l.length, .slice none 0 0, .slice none 0 0, none⟩, ⟨h.own, ⟨h.tags.1, h.tags.2.imp id fun ⟨g, cap, cur, h1, _, h3⟩ => ⟨g, cap, cur, h1, Nat.zero_le _, h3⟩⟩, h.wher, World.ownsRow_nil _ _ _ _, World.ownsRow_nil _ _ _ _, (fun m e => by cases e), ?_⟩, ?_⟩
  · rw [Djs.iff]
    have no : ∀ o : Option Nat, Dj o none := fun o x _ h => by cases h
    refine ⟨fun x h1 h2 => ?_, fun x h1 h2 => ?_, no _, no _, no _, fun x h1 h2 => ?_, no _, no _, no _, no _, no _, no _, no _, no _, no _⟩
    · injection h1 with h1; exact h.d1 (by rw [h2, h1])
    · injection h1 with h1
      have h2 : some w1.heap.size = some x := h2
      injection h2 with h2
      omega
    · have h2 : some w1.heap.size = some x := h2
      exact h.d2 (by rw [h1, h2])
  · intro b hbm
    simp only [SV.fp, List.mem_cons, List.not_mem_nil, or_false] at hbm
    rcases hbm with q | q | q | q | q | q
    · injection q with q; omega
    · exact own_ge0 h.tags q.symm
    · have q : some b = some w1.heap.size := q
      injection q with q; omega
    · cases q
    · cases q
    · cases q
theorem NewAt.keep {w w1 wr W : World} {n : Nat} {m : ByteArray} {out : List ByteArray} {vt : Value} (h : NewAt w w1 wr n m out vt) (hb : Below wr.heap.size wr W) : NewAt w w1 W n m out vt :=
  ⟨At.bel h.own hb, ⟨h.tags.1, h.tags.2.imp id fun ⟨g, cap, cur, h1, h2, h3, h4⟩ => ⟨g, cap, cur, h1, h2, (hb.block g (Array.getElem?_eq_some_iff.1 h3).1).trans h3, h4⟩⟩, h.wher.keep fun b e => hb.block b (h.wher.lt e), h.d1, h.d2⟩
theorem NewAt.push {w w1 W2 w5 : World} {n : Nat} {m : ByteArray} {out : List ByteArray} {vt v' : Value} {xt : ByteArray} (h : NewAt w w1 W2 n m out vt) (hw : w1.heap.size + 1 < W2.heap.size) (ho : w5.ownsRow w.heap.size 9 1 v' (out.length + 1) (out.flatMap encS ++ [.string xt])) (hg : W2.grownBy w5 vt.ownBlock) (hloc : v'.ownBlock = vt.ownBlock ∨ v'.ownBlock = some (W2.heap.size + 1)) :
    At w5 (w1.heap.size + 1) 84 #[vt, .slice (some ⟨w1.heap.size, 0, none⟩) n n, .string m, .slice none 0 0, .slice none 0 0, .bool false, .map none] ∧ NewAt w w1 (w5.setCell ⟨w1.heap.size + 1, 0, none⟩ v') n m (out ++ [xt]) v' := by
  have hat : At w5 (w1.heap.size + 1) 84 #[vt, .slice (some ⟨w1.heap.size, 0, none⟩) n n, .string m, .slice none 0 0, .slice none 0 0, .bool false, .map none] := (hg.block _ h.own.lt (fun e => h.d1 e.symm)).trans h.own
  refine ⟨hat, ⟨by simpa using hat.put 0 v', ?_, ?_, ?_, ?_⟩⟩
  · have h1 : w5.ownsRow w.heap.size 9 1 v' (out ++ [xt]).length ((out ++ [xt]).flatMap encS) := by
      rw [List.length_append, List.flatMap_append]
      exact ho
    refine ⟨h1.1, h1.2.imp id fun ⟨g, cap, cur, q1, q2, q3, q4⟩ => ⟨g, cap, cur, q1, q2, (Below.heap_setCell _ _ _ _ (fun e => ?_)).trans q3, q4⟩⟩
    have e : g = w1.heap.size + 1 := e
    have hv : v'.ownBlock = some g := by rw [q1]; rfl
    rcases hloc with q | q
    · exact h.d1 (by rw [← q, hv, e])
    · rw [hv] at q; injection q with q; omega
  · refine (h.wher.keep (w' := w5) fun b e => hg.block b (h.wher.lt e) (fun e2 => ?_)).keep fun b e => Below.heap_setCell _ _ _ _ (fun e2 => ?_)
    · have e : some w1.heap.size = some b := e
      exact h.d2 (by rw [← e2, e])
    · have e : some w1.heap.size = some b := e
      injection e with e
      have e2 : b = w1.heap.size + 1 := e2
      omega
  · rcases hloc with q | q
    · rw [q]; exact h.d1
    · rw [q]; intro e; injection e with e; omega
  · rcases hloc with q | q
    · rw [q]; exact h.d2
    · rw [q]; intro e; injection e with e; omega
def NewPost (l : List Bun) (m : ByteArray) (w : World) (e : Ending) (w' : World) : Prop :=
  (newOk l m = false → e = .returned (.tuple #[.pointer none, .int .i64 1])) ∧ (newOk l m = true → ∃ g p, e = .returned (.tuple #[.pointer (some ⟨g, 0, none⟩), .int .i64 0]) ∧ SiteW w' g (st0 l m) p ∧ ∀ b, some b ∈ p.fp g → w.heap.size ≤ b) ∧ Below w.heap.size w w'
set_option maxRecDepth 100000 in
set_option maxHeartbeats 2000000 in
theorem new_any (l : List Bun) (m : ByteArray) (hm : m.size ≤ 60) (ao : Option Addr) (cap : Nat) (hl : l.length ≤ cap) (hc : cap ≤ 9223372036854775807) (hs : Hid (∀ x ∈ l, x.tag.size ≤ 60 ∧ x.mark.size ≤ 60)) (w : World) (ha : Hid (RowAt encB 4 w.heap.size w ao l)) :
    Calls Tryd.prog 15 #[.slice ao l.length cap, .string m] w fun e w' => NewPost l m w e w' := by
  obtain ⟨j0, hj, hj0, hj1, hj2⟩ := info_parts infoStr
  have HV := Lib.hid (bvalid_any l ao cap hl hc hs w ha)
  have HN := Lib.hid (fun u => isName_any m (by omega) u)
  obtain ⟨b1, hb1⟩ : ∃ b1, bunV l = b1 := ⟨_, rfl⟩
  obtain ⟨b2, hb2⟩ : ∃ b2, nameB (by_ m) = b2 := ⟨_, rfl⟩
  have hnok : newOk l m = (b1 && b2) := by unfold newOk; rw [hb1, hb2]
  have hln : b1 = true → l.length ≤ 1000 := fun h => by
    rw [h] at hb1
    unfold bunV at hb1
    simp only [Bool.and_eq_true, decide_eq_true_eq] at hb1
    exact hb1.1.1
  unfold NewPost
  rw [hnok]
  rw [hb1] at HV
  rw [hb2] at HN
  replace hln := Lib.hid hln
  clear hb1 hb2 hnok
  obtain ⟨n, hn⟩ : ∃ n, l.length = n := ⟨_, rfl⟩
  rw [hn] at hl HV ⊢
  replace hn := Lib.hid hn
  go_enter Tryd.func15, Tryd.ntmps15
  go_wp2_with fail
  refine (HV.out).mono ?_
  rintro e w1 ⟨rfl, HB⟩
  clear HV
  cases b1
  · go_wp2_with fail
    exact bodyPost_ret (v := .tuple #[.pointer none, .int .i64 1]) (by simp [results, Tryd.results15, go_sem]) rfl ⟨fun _ => rfl, fun h => (by cases h), HB⟩
  go_wp2_with fail
  refine (HN.out _).mono ?_
  rintro e w' ⟨rfl, rfl⟩
  clear HN
  cases b2
  · go_wp2_with fail
    exact bodyPost_ret (v := .tuple #[.pointer none, .int .i64 1]) (by simp [results, Tryd.results15, go_sem]) rfl ⟨fun _ => rfl, fun h => (by cases h), HB⟩
  have hn1 : n ≤ 1000 := by rw [← hn.out]; first | exact hln.out rfl | exact hln.out trivial
  clear hln
  have hmk := fun u => run_make_row' 42 3 (.int .i64 0) 8 Tryd.underlying42 infoInt rfl .i64 .i64 n (by omega) (by omega) u
  go_upto_region 4 with fail
  generalize hWW : World.alloc _ _ = W0
  have hN0 : NewAt w w1 W0 n m [] (.slice none 0 0) := by
    rw [← hWW]
    refine ⟨At.new' (by simp), World.ownsRow_nil _ _ _ _, (row_zero w1 n hn1).keep fun b e => ?_, (by intro h; cases h), (by intro h; cases h)⟩
    have e : some w1.heap.size = some b := e
    injection e with e
    exact Below.heap_alloc _ _ b (by rw [← e]; simp)
  have hB0 : Below w1.heap.size w1 W0 := by rw [← hWW]; exact below_al (below_al (Below.refl _ _) _) _
  clear hWW hmk
  have ha0 : Hid (RowAt encB 4 w.heap.size W0 ao l) := Lib.hid (ha.out.bel (Nat.le_refl _) (below_then HB hB0))
  have hB1 : Below w.heap.size w W0 := below_then HB hB0
  have hww : w.heap.size ≤ w1.heap.size := HB.size
  replace hN0 := Lib.hid hN0
  clear hB0 HB
  go_wp2_with fail
  go_loopg [25] n (fun g1 i wr => ∃ k : Nat, k ≤ n ∧ i = .int .i64 (k : Int) ∧ Hid (g1 = n - k) ∧ Below w.heap.size w wr ∧ Hid (RowAt encB 4 w.heap.size wr ao l) ∧ Hid (∃ vt, NewAt w w1 wr n m ((l.map (·.tag)).take k) vt))
  case atStart => exact ⟨0, Nat.zero_le _, rfl, Lib.hid rfl, hB1, ha0, Lib.hid ⟨_, hN0.out⟩⟩
  case round =>
    have ha0' := ha
    clear ha0 hB1 hN0 ha
    obtain ⟨k, hk, rfl, hr, HB, ha, hN⟩ := hrel
    by_cases hlt : k < n
    · have hkl : Hid (k < l.length) := Lib.hid (by rw [hn.out]; exact hlt)
      have hkt : Hid (k < (l.map (·.tag)).length) := Lib.hid (by rw [List.length_map]; exact hkl.out)
      obtain ⟨b, off, rfl, c0, c1, c2, c3, hb⟩ := ha.out.bun k hkl.out
      have hxt : Hid ((l.map (·.tag))[k]'hkt.out = (l[k]'hkl.out).tag) := Lib.hid (List.getElem_map ..)
      obtain ⟨x, hx⟩ : ∃ x, l[k]'hkl.out = x := ⟨_, rfl⟩
      rw [hx] at c0 c1 c2 c3 hxt
      clear hx
      obtain ⟨xt, xm, xc, xs⟩ := x
      dsimp only at c0 c1 c2 c3 hxt
      obtain ⟨vt, hN⟩ := hN.out
      obtain ⟨out, hout⟩ : ∃ out, (l.map (·.tag)).take k = out := ⟨_, rfl⟩
      have hlen : out.length = k := by rw [← hout, List.length_take]; have := hkt.out; omega
      rw [hout] at hN
      replace hout := Lib.hid hout
      go_upto_region 7 with fail
      generalize hWW : World.alloc _ _ = W2
      have kx : At W2 wr.heap.size 44 #[.string xt, .string xm, .int .i64 xc, .int .i64 xs] := by rw [← hWW]; exact At.new' rfl
      have hbW : Below wr.heap.size wr W2 := by rw [← hWW]; exact below_al (Below.refl _ _) _
      replace ha := Lib.hid (ha.out.bel HB.size hbW)
      replace hN := hN.keep hbW
      replace HB := below_then HB hbW
      clear hWW hbW c0 c1 c2 c3 hb
      obtain ⟨k0, k1, k2, k3⟩ := kx.four
      have z0 : W2.cell? ⟨w1.heap.size + 1, 0, none⟩ = some vt := hN.own.c 0
      have Lw := hN.own.lt
      have ho : Hid (W2.ownsRow w.heap.size 9 1 vt k (out.flatMap encS)) := Lib.hid (by rw [← hlen]; exact hN.tags)
      have hS : Hid (∀ (w5 : World) (v' : Value), w5.ownsRow w.heap.size 9 1 v' (k + 1) (out.flatMap encS ++ [.string xt]) → W2.grownBy w5 vt.ownBlock → (v'.ownBlock = vt.ownBlock ∨ v'.ownBlock = some (W2.heap.size + 1)) → At w5 (w1.heap.size + 1) 84 #[vt, .slice (some ⟨w1.heap.size, 0, none⟩) n n, .string m, .slice none 0 0, .slice none 0 0, .bool false, .map none] ∧ (NewAt w w1 (w5.setCell ⟨w1.heap.size + 1, 0, none⟩ v') n m ((l.map (·.tag)).take (k + 1)) v' ∧ Below w.heap.size w (w5.setCell ⟨w1.heap.size + 1, 0, none⟩ v'))) := Lib.hid (fun w5 v' ho5 hg5 hloc => by
        obtain ⟨q1, q2⟩ := hN.push Lw (xt := xt) (by rw [hlen]; exact ho5) hg5 hloc
        refine ⟨q1, ?_, below_set (HB.grown hg5 HB.size (fun j hj => own_ge0 hN.tags hj)) (by show w.heap.size ≤ w1.heap.size + 1; omega) _⟩
        rw [List.take_succ_eq_append_getElem hkt.out, hxt.out, hout.out]
        exact q2)
      clear hN hlen hout
      go_region_law (refine step_append_at _ rfl (.tmp 33) (.tmp 36) 81 rfl w.heap.size 9 j0 (.string ⟨#[]⟩) 1 16 Tryd.underlying81 hj hj0 hj1 hj2 rfl (by decide) vt k (out.flatMap encS) (by first | (simp [Act.eval]; done) | simp [Act.eval, Act.put]) (by first | exact World.ownsRow.alloc (World.ownsRow.drew ho.out) _ | exact World.ownsRow.drew (World.ownsRow.alloc ho.out _)) ⟨W2.heap.size, 0, none⟩ 1 1 [.string xt] (by first | (simp [Act.eval]; done) | simp [Act.eval, Act.put]) rfl (by first | exact cell_one_new _ _ _ | exact cell_one_new W2 _ _) (by intro u hu; simp at hu; subst hu; rfl) (by unfold maxLen; omega) (by omega) (by have := HB.size; simp; omega) ?_; intro a5 c5 w5 ho5 hg5 hloc; have hg6 := grown_after (w := W2) (by first | exact below_drew (below_al (Below.refl _ _) _) | exact below_al (below_drew (Below.refl _ _)) _) hg5; obtain ⟨hat5, hN5⟩ := hS.out w5 _ ho5 hg6 (by simpa using hloc); have f0 := hat5.f 0; have y0 : w5.cell? ⟨w1.heap.size + 1, 0, none⟩ = some vt := hat5.c 0; clear ho5 hg5 hg6 hat5 hloc)
      all_goals
        obtain ⟨hN6, HB6⟩ := hN5
        have ha6 := Lib.hid (ha0'.out.bel (Nat.le_refl _) HB6)
        clear hS ho z0 k0 k1 k2 k3 kx
        go_wp2_with fail
        go_roundg (n - (k + 1))
        case measure => have := hr.out; omega
        case rel => exact ⟨k + 1, by omega, by go_num, Lib.hid rfl, (by repeat (first | with_reducible assumption | with_reducible exact Below.refl _ _ | with_reducible refine below_al ?_ _ | with_reducible refine below_drew ?_ | with_reducible refine below_drewN ?_ _ | with_reducible refine below_set ?_ (by dsimp only; omega) _)), by first | exact ha6 | exact Lib.hid ha6.out, Lib.hid ⟨_, hN6⟩⟩
    · obtain ⟨vt, hN⟩ := hN.out
      rw [List.take_of_length_le (by rw [List.length_map]; have := hn.out; omega)] at hN
      obtain ⟨p, hp1, hp2⟩ := hN.site hww hn.out.symm
      replace hp1 := Lib.hid hp1
      clear hN
      go_wp2_with fail
      exact bodyPost_ret (v := .tuple #[.pointer (some ⟨w1.heap.size + 1, 0, none⟩), .int .i64 0]) (by simp [results, Tryd.results15, go_sem]) rfl ⟨fun h => (by cases h), fun _ => ⟨_, p, rfl, hp1.out, hp2⟩, HB⟩
end Go.Proofs.YtjlkbmaigcgnbaaDoor
set_option linter.unusedVariables false
namespace Go.Proofs.YtjlkbmaigcgnbaaDoor
open Go.ChangeShapes Go.WideShapes Go.ChangeAt Go.RowKit
section
variable {l : List Bun} {m : ByteArray} {n : Nat} {w w1 w5 : World} {a5 : Option Addr} {c5 : Nat}
end
end Go.Proofs.YtjlkbmaigcgnbaaDoor
set_option linter.unusedVariables false
namespace Go.Proofs.YtjlkbmaigcgnbaaDoor
open Go.ChangeShapes Go.WideShapes Go.ChangeAt Go.RowKit
end Go.Proofs.YtjlkbmaigcgnbaaDoor
set_option linter.unusedVariables false
namespace Go.Proofs.YtjlkbmaigcgnbaaDoor
open Go.ChangeShapes Go.WideShapes Go.ChangeAt Go.RowKit
end Go.Proofs.YtjlkbmaigcgnbaaDoor
set_option linter.unusedVariables false
namespace Go.Proofs.YtjlkbmaigcgnbaaDoor
open Go.ChangeShapes Go.WideShapes Go.ChangeAt Go.RowKit
section
variable {B X : Nat} {w w' u : World} {g h : Nat} {s t : St}
end
theorem below_le {a u w : World} (h : Below a.heap.size a u) (k : Below a.heap.size u w) : Below a.heap.size a w := h.trans k
end Go.Proofs.YtjlkbmaigcgnbaaDoor
