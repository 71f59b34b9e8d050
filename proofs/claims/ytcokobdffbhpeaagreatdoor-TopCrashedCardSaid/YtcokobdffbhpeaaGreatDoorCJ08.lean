/- site: Ready, Account, Open, Entries; the reference's Ready, Account, find. the reference: Account. clones and comparisons of rows of entries. clones and comparisons of rows of names. site: Open, Entries. site: the law's 'same': a site, and the reference's, answer the same. -/
import Derived.Test.YtcokobdffbhpeaaGreatDoorCJ06
import Derived.Test.YtcokobdffbhpeaaGreatDoorCJ07
import Derived.Ground.SlgnProg
import Derived.Test.YtcokobdffbhpeaaGreatDoorCJ01
import Derived.Shelf.SlicesE.Clone
import Derived.Shelf.Lay
import Derived.Deep.RegionHeld3
set_option linter.unusedVariables false
namespace Go.Proofs.YtcokobdffbhpeaaGreatDoor
open Go.ChangeShapes Go.WideShapes Go.ChangeAt Go.RowKit
set_option maxRecDepth 100000 in
set_option maxHeartbeats 1000000 in
theorem ready_any (s : St) (hok : s.ok) (g : Nat) (p : SV) (w : World) (hs : SiteW w g s p) :
    Calls Tryz.prog 15 #[.pointer (some ⟨g, 0, none⟩)] w fun e w' => e = .returned (.bool (readyS s)) ∧ Below w.heap.size w w' := by
  have HM := Lib.hid (missing_any s hok g p w hs)
  obtain ⟨b, hb⟩ : ∃ b, readyS s = b := ⟨_, rfl⟩
  rw [hb]
  unfold readyS at hb
  rw [isEmpty_len, isEmpty_len] at hb
  obtain ⟨ao, cap, hvt, hl, hc, -, -⟩ := hs.opn.view encS_len
  obtain ⟨m, hm⟩ : ∃ m, (missS s.tags s.at_).length = m := ⟨_, rfl⟩
  obtain ⟨n, hn⟩ : ∃ n, s.open_.length = n := ⟨_, rfl⟩
  rw [hm, hn] at hb
  rw [hm] at HM
  rw [hn] at hvt hl
  clear hn
  replace hs := Lib.hid hs
  replace hb := Lib.hid hb
  clear hok
  go_enter Tryz.func15, Tryz.ntmps15
  go_wp2_with fail
  refine (HM.out).mono ?_
  rintro e w1 ⟨⟨v, rfl, ho⟩, HB⟩
  obtain ⟨a, c, rfl⟩ := own_slice ho.out
  have z3 : w1.cell? ⟨g, 3, none⟩ = some (.slice ao n cap) := by
    have := (hs.out.bel HB).own.c 3
    rw [hvt] at this
    exact this
  clear HM
  by_cases m0 : m = 0
  · by_cases n0 : n = 0
    · have hE : Hid (b = true) := Lib.hid (by rw [← hb.out, decide_eq_true m0, decide_eq_true n0]; rfl)
      subst m0
      subst n0
      go_wp2_with fail
      go_ret
      exact ⟨by rw [hE.out]; rfl, HB⟩
    · have hE : Hid (b = false) := Lib.hid (by rw [← hb.out, decide_eq_false n0]; simp)
      have n1 : ((n : Int) == 0) = false := by simp; omega
      subst m0
      go_wp2_with fail
      go_ret
      exact ⟨by rw [hE.out]; rfl, HB⟩
  · have hE : Hid (b = false) := Lib.hid (by rw [← hb.out, decide_eq_false m0]; simp)
    have m1 : ((m : Int) == 0) = false := by simp; omega
    go_wp2_with fail
    go_ret
    exact ⟨by rw [hE.out]; rfl, HB⟩
structure Cnt (l : List Nat) (a b c : Nat) : Prop where
  c0 : l.count 0 = a
  c1 : l.count 1 = b
  c2 : l.count 2 = c
theorem Cnt.step {l : List Nat} {k a b c : Nat} (h : Cnt (l.take k) a b c) (hk : k < l.length) : Cnt (l.take (k + 1)) (a + if l[k] = 0 then 1 else 0) (b + if l[k] = 1 then 1 else 0) (c + if l[k] = 2 then 1 else 0) := by
  obtain ⟨h0, h1, h2⟩ := h
  have e : ∀ x, (l.take (k + 1)).count x = (l.take k).count x + if l[k] = x then 1 else 0 := fun x => by
    rw [List.take_succ_eq_append_getElem hk, List.count_append, List.count_singleton]
    by_cases q : l[k] = x
    · rw [if_pos q, if_pos (by simpa using q)]
    · rw [if_neg q, if_neg (by simpa using q)]
  exact ⟨by rw [e, h0], by rw [e, h1], by rw [e, h2]⟩
set_option maxRecDepth 100000 in
set_option maxHeartbeats 2000000 in
theorem account_any (s : St) (hok : s.ok) (g : Nat) (p : SV) (w : World) (hs : SiteW w g s p) :
    Calls Tryz.prog 12 #[.pointer (some ⟨g, 0, none⟩)] w fun e w' => e = .returned (.tuple #[.int .i64 (s.at_.count 0 : Nat), .int .i64 (s.at_.count 1 : Nat), .int .i64 (s.at_.count 2 : Nat)]) ∧ Below w.heap.size w w' := by
  obtain ⟨aw, cw, hvw, hl2, hc2, -, -⟩ := hs.wher.view encN_len
  obtain ⟨n, hn⟩ : ∃ n, s.at_.length = n := ⟨_, rfl⟩
  have hn1 : n ≤ 1000 := by have := hok.tagsN; have := hok.len; omega
  rw [hn] at hl2 hvw
  obtain ⟨R0, hR0⟩ : ∃ R, s.at_.count 0 = R := ⟨_, rfl⟩
  obtain ⟨R1, hR1⟩ : ∃ R, s.at_.count 1 = R := ⟨_, rfl⟩
  obtain ⟨R2, hR2⟩ : ∃ R, s.at_.count 2 = R := ⟨_, rfl⟩
  rw [hR0, hR1, hR2]
  have hR := Lib.hid (Cnt.mk hR0 hR1 hR2)
  clear hR0 hR1 hR2
  have hle := Lib.hid hok.le
  have hs0 := Lib.hid hs
  clear hok
  have z1 : w.cell? ⟨g, 1, none⟩ = some (.slice aw n cw) := by
    have := hs.own.c 1
    rw [hvw] at this
    exact this
  have Lg : g < w.heap.size := hs.own.lt
  replace hn := Lib.hid hn
  replace hvw := Lib.hid hvw
  clear hs
  go_enter Tryz.func12, Tryz.ntmps12
  go_wp2_with fail
  go_loopg [15] n (fun g1 i wr => ∃ (k x0 x1 x2 : Nat), k ≤ n ∧ i = .int .i64 (k : Int) ∧ Hid (g1 = n - k ∧ Cnt (s.at_.take k) x0 x1 x2) ∧ x0 + x1 + x2 = k ∧ Below w.heap.size w wr ∧ At wr w.heap.size 68 #[.int .i64 (x0 : Int), .int .i64 (x1 : Int), .int .i64 (x2 : Int)] ∧ Hid (SiteW wr g s p))
  case atStart => exact ⟨0, 0, 0, 0, Nat.zero_le _, rfl, Lib.hid ⟨rfl, ⟨rfl, rfl, rfl⟩⟩, rfl, (by repeat (first | with_reducible assumption | with_reducible exact Below.refl _ _ | with_reducible refine below_al ?_ _ | with_reducible refine below_drew ?_ | with_reducible refine below_drewN ?_ _ | with_reducible refine below_set ?_ (by dsimp only; omega) _)), At.new' rfl, Lib.hid (hs0.out.bel (below_al (Below.refl _ _) _))⟩
  case round =>
    clear z1
    obtain ⟨k, x0, x1, x2, hk, rfl, hr, hsum, HB, kz, hs⟩ := hrel
    have z1 : wr.cell? ⟨g, 1, none⟩ = some (.slice aw n cw) := by
      have := hs.out.own.c 1
      rw [hvw.out] at this
      exact this
    have Lz := kz.lt
    have q0 := kz.f 0
    have q1 := kz.f 1
    have q2 := kz.f 2
    have Lg' : g < wr.heap.size := hs.out.own.lt
    obtain ⟨kz0, kz1, kz2⟩ := kz.three
    by_cases hlt : k < n
    · have hka : Hid (k < s.at_.length) := Lib.hid (by rw [hn.out]; exact hlt)
      obtain ⟨b2, off2, rfl, f0, hb2⟩ := ((show Row wr _ 1 encN (.slice aw n cw) s.at_ from hvw.out ▸ hs.out.wher).at encN_len).one (f := fun n : Nat => Value.int .i64 (n : Int)) k hka.out
      have hy2 := hle.out _ (List.getElem_mem hka.out)
      obtain ⟨y, hy⟩ : ∃ y, s.at_[k]'hka.out = y := ⟨_, rfl⟩
      rw [hy] at f0 hy2
      replace hy := Lib.hid hy
      have hy3 : y = 0 ∨ y = 1 ∨ y = 2 := by omega
      clear hy2
      rcases hy3 with rfl | rfl | rfl
      · have w0 : IntKind.i64.wrap ((x0 : Int) + 1) = (x0 : Int) + 1 := IntWalk.i64_in _ (by omega)
        go_wp2_with fail
        generalize hWW : World.setCell _ _ _ = WW
        have kz' : At WW w.heap.size 68 #[.int .i64 ((x0 : Int) + 1), .int .i64 ((x1 : Int)), .int .i64 ((x2 : Int))] := by rw [← hWW]; exact At.put (i := 0) kz _
        have HB' : Below w.heap.size w WW := by rw [← hWW]; exact below_set HB (Nat.le_refl _) _
        clear hWW HB kz q0 q1 q2
        go_wp2_with fail
        go_roundg (n - (k + 1))
        case measure => have := hr.out.1; omega
        case rel => exact ⟨k + 1, (x0 + 1), x1, x2, by omega, by go_num, Lib.hid ⟨rfl, by have := hr.out.2.step hka.out; rw [hy.out] at this; simpa using this⟩, by omega, HB', by simpa using kz', Lib.hid (hs0.out.bel HB')⟩
      · have w0 : IntKind.i64.wrap ((x1 : Int) + 1) = (x1 : Int) + 1 := IntWalk.i64_in _ (by omega)
        go_wp2_with fail
        generalize hWW : World.setCell _ _ _ = WW
        have kz' : At WW w.heap.size 68 #[.int .i64 ((x0 : Int)), .int .i64 ((x1 : Int) + 1), .int .i64 ((x2 : Int))] := by rw [← hWW]; exact At.put (i := 1) kz _
        have HB' : Below w.heap.size w WW := by rw [← hWW]; exact below_set HB (Nat.le_refl _) _
        clear hWW HB kz q0 q1 q2
        go_wp2_with fail
        go_roundg (n - (k + 1))
        case measure => have := hr.out.1; omega
        case rel => exact ⟨k + 1, x0, (x1 + 1), x2, by omega, by go_num, Lib.hid ⟨rfl, by have := hr.out.2.step hka.out; rw [hy.out] at this; simpa using this⟩, by omega, HB', by simpa using kz', Lib.hid (hs0.out.bel HB')⟩
      · have w0 : IntKind.i64.wrap ((x2 : Int) + 1) = (x2 : Int) + 1 := IntWalk.i64_in _ (by omega)
        go_wp2_with fail
        generalize hWW : World.setCell _ _ _ = WW
        have kz' : At WW w.heap.size 68 #[.int .i64 ((x0 : Int)), .int .i64 ((x1 : Int)), .int .i64 ((x2 : Int) + 1)] := by rw [← hWW]; exact At.put (i := 2) kz _
        have HB' : Below w.heap.size w WW := by rw [← hWW]; exact below_set HB (Nat.le_refl _) _
        clear hWW HB kz q0 q1 q2
        go_wp2_with fail
        go_roundg (n - (k + 1))
        case measure => have := hr.out.1; omega
        case rel => exact ⟨k + 1, x0, x1, (x2 + 1), by omega, by go_num, Lib.hid ⟨rfl, by have := hr.out.2.step hka.out; rw [hy.out] at this; simpa using this⟩, by omega, HB', by simpa using kz', Lib.hid (hs0.out.bel HB')⟩
    · have hE : Hid (x0 = R0 ∧ x1 = R1 ∧ x2 = R2) := Lib.hid (by
        have h0 := hr.out.2
        rw [List.take_of_length_le (by have := hn.out; omega)] at h0
        exact ⟨h0.c0.symm.trans hR.out.c0, h0.c1.symm.trans hR.out.c1, h0.c2.symm.trans hR.out.c2⟩)
      have K0 := cell_regrown kz0
      have K1 := cell_regrown kz1
      have K2 := cell_regrown kz2
      go_upto_region 8 with fail
      refine wp_region_quiet_below (by kernel_rfl) (by kernel_rfl) ?_
      repeat (go_big_quiet_step (fail))
      refine wpQuiet_nil ?_
      intro v hb'
      have hb := below_of_regrown hb'
      replace HB := below_then HB hb
      clear hb' hb
      go_wp2_with fail
      exact bodyPost_ret (v := .tuple #[.int .i64 (x0 : Int), .int .i64 (x1 : Int), .int .i64 (x2 : Int)]) (by simp [results, Tryz.results12, go_sem]) rfl ⟨by rw [← hE.out.1, ← hE.out.2.1, ← hE.out.2.2], HB⟩
end Go.Proofs.YtcokobdffbhpeaaGreatDoor
set_option linter.unusedVariables false
namespace Go.Proofs.YtcokobdffbhpeaaGreatDoor
open Go.ChangeShapes Go.WideShapes Go.ChangeAt Go.RowKit
end Go.Proofs.YtcokobdffbhpeaaGreatDoor
set_option linter.unusedVariables false
namespace Go.Proofs.YtcokobdffbhpeaaGreatDoor
open Go.ChangeShapes Go.WideShapes Go.ChangeAt Go.RowKit Go.Shelf

shelf_lay_g SlLaysE0.n41 Slgn 41 at Tryz 27 as Tryz.cloneEnt
noncomputable def enI : TypeInfo := (Tryz.prog.info? 39).get (by kernel_rfl)
theorem cloneE_any (l : List Ent) (ao : Option Addr) (cap : Nat) (hl : l.length ≤ 100000) (hf : (ao = none ∧ l.length = 0) ∨ ∃ b off, ao = some ⟨b, off, none⟩) (B : Nat) (w : World) (ha : RowAt encE 3 B w ao l) :
    Calls Tryz.prog 27 #[.slice ao l.length cap] w fun e w' => (∃ v, e = .returned v ∧ Hid (w'.ownsRow w.heap.size 39 3 v l.length (l.flatMap encE))) ∧ Below w.heap.size w w' := by
  rcases hf with ⟨rfl, h0⟩ | ⟨b, off, rfl⟩
  · obtain rfl := List.length_eq_zero_iff.1 h0
    refine (AnyE.slices_Clone_nil Tryz.cloneEnt 0 cap w).mono ?_
    rintro e w' ⟨rfl, rfl⟩
    exact ⟨⟨_, rfl, Lib.hid (World.ownsRow_nil _ _ _ _)⟩, Below.refl _ _⟩
  · refine (AnyE.slices_Clone Tryz.cloneEnt enI (.agg #[.int .i64 0, .int .i64 0, .string ⟨#[]⟩]) 3 32 (by kernel_rfl) (by kernel_rfl) (by kernel_rfl) (by kernel_rfl) rfl (by decide) Tryz.sizeOf39 b off l.length cap (l.flatMap encE) w (flat_len encE_len l) (by unfold maxLen; omega) (by omega) (ha.flat encE_len (by decide)) ?_).mono ?_
    · intro u hu
      obtain ⟨x, _, hx⟩ := List.mem_flatMap.1 hu
      simp [encE] at hx
      rcases hx with rfl | rfl | rfl <;> rfl
    · rintro e w' ⟨v, rfl, h1, h2, h3⟩
      exact ⟨⟨v, rfl, Lib.hid h1⟩, h3⟩
set_option maxRecDepth 100000 in
set_option maxHeartbeats 1000000 in
theorem eqE_any (l : List Ent) (a b : Option Addr) (ca cb : Nat) (hl : l.length ≤ 1000000) (h1 : l.length ≤ ca) (h2 : l.length ≤ cb) (w : World) (ta : Hid (RowAt encE 3 w.heap.size w a l)) (tb : Hid (RowAt encE 3 w.heap.size w b l)) :
    Calls Tryz.prog 10 #[.slice a l.length ca, .slice b l.length cb] w fun e w' => e = .returned (.bool true) ∧ Below w.heap.size w w' := by
  obtain ⟨n, hn⟩ : ∃ n, l.length = n := ⟨_, rfl⟩
  rw [hn] at hl h1 h2 ⊢
  replace hn := Lib.hid hn
  go_enter Tryz.func10, Tryz.ntmps10
  go_wp2_with fail
  go_loopg [13] n (fun g i wr => ∃ k : Nat, k ≤ n ∧ i = .int .i64 (k : Int) ∧ Hid (g = n - k) ∧ Below w.heap.size w wr ∧ Hid (RowAt encE 3 w.heap.size wr a l) ∧ Hid (RowAt encE 3 w.heap.size wr b l))
  case atStart => exact ⟨0, Nat.zero_le _, rfl, Lib.hid rfl, Below.refl _ _, ta, tb⟩
  case round =>
    clear ta tb
    obtain ⟨k, hk, rfl, hg, HB, ta, tb⟩ := hrel
    by_cases hlt : k < n
    · have hkl : Hid (k < l.length) := Lib.hid (by rw [hn.out]; exact hlt)
      obtain ⟨t, ht⟩ : ∃ t, l[k]'hkl.out = t := ⟨_, rfl⟩
      obtain ⟨ga, oa, rfl, a0, a1, a2, la⟩ := ta.out.ent k hkl.out
      obtain ⟨gb, ob, rfl, b0, b1, b2, lb⟩ := tb.out.ent k hkl.out
      rw [ht] at a0 a1 a2 b0 b1 b2
      replace ht := Lib.hid ht
      obtain ⟨td, tk, tn⟩ := t
      dsimp only at a0 a1 a2 b0 b1 b2
      clear la lb
      go_wp2_with fail
      go_quiet (fail)
      go_wp2_with fail
      go_roundg (n - (k + 1))
      case measure => have := hg.out; omega
      case rel => exact ⟨k + 1, by omega, by go_num, Lib.hid rfl, below_drewN HB _, ta, tb⟩
    · have e : k = n := by omega
      subst e
      go_wp2_with fail
      go_ret
      exact ⟨rfl, HB⟩
theorem eqvE_any (l : List Ent) (v1 v2 : Value) (w : World) (hl : l.length ≤ 1000000) (h1 : IsE l v1 w) (h2 : IsE l v2 w) :
    Calls Tryz.prog 10 #[v1, v2] w fun e w' => e = .returned (.bool true) ∧ Below w.heap.size w w' := by
  obtain ⟨a, c, rfl, c1, _, r1⟩ := h1
  obtain ⟨b, d, rfl, c2, _, r2⟩ := h2
  exact eqE_any l a b c d hl c1 c2 w (Lib.hid r1) (Lib.hid r2)
end Go.Proofs.YtcokobdffbhpeaaGreatDoor
set_option linter.unusedVariables false
namespace Go.Proofs.YtcokobdffbhpeaaGreatDoor
open Go.ChangeShapes Go.WideShapes Go.ChangeAt Go.RowKit Go.Shelf
theorem getD_str {l : List ByteArray} {b off : Nat} {B : Nat} {w : World} (h : RowAt encS 1 B w (some ⟨b, off, none⟩) l) : ∀ j, j < l.length → w.cell? ⟨b, off + j, none⟩ = some (.string (l.getD j ByteArray.empty)) := by
  intro j hj
  obtain ⟨b', off', e, hc, _⟩ := h.one (f := fun s => .string s) j hj
  simp only [Option.some.injEq, Addr.mk.injEq, and_true] at e
  obtain ⟨rfl, rfl⟩ := e
  rw [hc]
  simp [List.getD, hj]
end Go.Proofs.YtcokobdffbhpeaaGreatDoor
set_option linter.unusedVariables false
namespace Go.Proofs.YtcokobdffbhpeaaGreatDoor
open Go.ChangeShapes Go.WideShapes Go.ChangeAt Go.RowKit Go.Shelf
set_option maxRecDepth 100000 in
theorem entries_any (s : St) (hok : s.ok) (g : Nat) (p : SV) (w : World) (hs : SiteW w g s p) :
    Calls Tryz.prog 13 #[.pointer (some ⟨g, 0, none⟩)] w fun e w' => (∃ v, e = .returned v ∧ Hid (w'.ownsRow w.heap.size 39 3 v s.kept.length (s.kept.flatMap encE))) ∧ Below w.heap.size w w' := by
  obtain ⟨ao, cap, hvt, hl, hc, hrow, hf⟩ := hs.ents.view encE_len
  have hn : s.kept.length ≤ 100000 := by have := hok.openN; have := hok.keptN; omega
  have HC := Lib.hid (cloneE_any s.kept ao cap hn (by rcases hf with ⟨h1, h2, _⟩ | ⟨g, h1, _⟩; exact .inl ⟨h1, h2⟩; exact .inr ⟨g, 0, h1⟩) _ w hrow)
  have z3 : w.cell? ⟨g, 4, none⟩ = some (.slice ao s.kept.length cap) := by
    have := hs.own.c 4
    rw [hvt] at this
    exact this
  generalize s.kept = l at *
  generalize l.length = n at *
  generalize l.flatMap encE = xs at *
  clear hs hvt hrow hf hok
  go_enter Tryz.func13, Tryz.ntmps13
  go_wp2_with fail
  refine (HC.out).mono ?_
  rintro e w1 ⟨⟨v, rfl, ho⟩, HB⟩
  go_wp2_with fail
  go_ret
  exact ⟨⟨v, rfl, ho⟩, HB⟩
end Go.Proofs.YtcokobdffbhpeaaGreatDoor
set_option linter.unusedVariables false
namespace Go.Proofs.YtcokobdffbhpeaaGreatDoor
open Go.ChangeShapes Go.WideShapes Go.ChangeAt Go.RowKit
end Go.Proofs.YtcokobdffbhpeaaGreatDoor
