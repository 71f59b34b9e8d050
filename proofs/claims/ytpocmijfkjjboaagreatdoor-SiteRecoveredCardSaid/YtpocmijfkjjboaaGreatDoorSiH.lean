/- site: Missing, Ready, Account: what is read of a site; the reference's. -/
import Derived.Test.YtpocmijfkjjboaaGreatDoorSiG
import Derived.Maps.AppendAt
set_option linter.unusedVariables false
namespace Go.Proofs.YtpocmijfkjjboaaGreatDoor
open Go.ChangeShapes Go.WideShapes Go.ChangeAt Go.RowKit

theorem miss_step {ts : List ByteArray} {r : List Nat} {k : Nat} (h1 : k < ts.length) (h2 : k < r.length) : missS (ts.drop k) (r.drop k) = if r[k] = 2 then missS (ts.drop (k + 1)) (r.drop (k + 1)) else ts[k] :: missS (ts.drop (k + 1)) (r.drop (k + 1)) := by
  rw [List.drop_eq_getElem_cons h1, List.drop_eq_getElem_cons h2]
  rfl
theorem miss_end {ts : List ByteArray} {r : List Nat} {k : Nat} (h1 : ts.length ≤ k) : missS (ts.drop k) (r.drop k) = [] := by
  rw [List.drop_eq_nil_of_le h1]
  rfl
theorem miss_len : ∀ (ts : List ByteArray) (r : List Nat), (missS ts r).length ≤ ts.length
  | [], _ => by simp [missS]
  | _ :: _, [] => by simp [missS]
  | t :: ts, a :: r => by
    have := miss_len ts r
    unfold missS
    split
    · simp only [List.length_cons]; omega
    · simp only [List.length_cons]; omega

set_option maxRecDepth 100000 in
set_option maxHeartbeats 1000000 in
theorem missing_any (s : St) (hok : s.ok) (g : Nat) (p : SV) (w : World) (hs : SiteW w g s p) :
    Calls Tryz.prog 18 #[.pointer (some ⟨g, 0, none⟩)] w fun e w' => (∃ v, e = .returned v ∧ Hid (w'.ownsRow w.heap.size 9 1 v (missS s.tags s.at_).length ((missS s.tags s.at_).flatMap encS))) ∧ Below w.heap.size w w' := by
  obtain ⟨i0, hi, hz0, hz1, hz2⟩ := info_parts infoStr
  obtain ⟨ao, cap, hvt, hl, hc, -, -⟩ := hs.tags.view encS_len
  obtain ⟨aw, cw, hvw, hl2, hc2, -, -⟩ := hs.wher.view encN_len
  rw [hok.len] at hl2 hvw
  obtain ⟨n, hn⟩ : ∃ n, s.tags.length = n := ⟨_, rfl⟩
  have hn1 : n ≤ 1000 := by have := hok.tagsN; omega
  have hlen := hok.len
  rw [hn] at hl hl2 hlen hvt hvw
  replace hn := Lib.hid hn
  replace hlen := Lib.hid hlen
  have hle := Lib.hid hok.le
  replace hs := Lib.hid hs
  clear hok
  have z0 : w.cell? ⟨g, 0, none⟩ = some (.slice ao n cap) := by
    have := hs.out.own.c 0
    rw [hvt] at this
    exact this
  replace hvt := Lib.hid hvt
  replace hvw := Lib.hid hvw
  go_enter Tryz.func18, Tryz.ntmps18
  go_wp2_with fail
  go_loopg [13, 3] n (fun g1 i v wr => ∃ (k : Nat) (out : List ByteArray) (v0 : Value), v0 = v ∧ k ≤ n ∧ i = .int .i64 (k : Int) ∧ Hid (g1 = n - k ∧ out ++ missS (s.tags.drop k) (s.at_.drop k) = missS s.tags s.at_) ∧ Below w.heap.size w wr ∧ Hid (SiteW wr g s p) ∧ Hid (wr.ownsRow w.heap.size 9 1 v out.length (out.flatMap encS)) ∧ Hid (out.length ≤ k))
  case atStart => exact ⟨0, [], _, rfl, Nat.zero_le _, rfl, Lib.hid ⟨rfl, rfl⟩, Below.refl _ _, hs, Lib.hid (World.ownsRow_nil _ _ _ _), Lib.hid (Nat.le_refl _)⟩
  case round =>
    have hs0 := hs
    clear hs z0
    obtain ⟨k, out, v, rfl, hk, rfl, hr, HB, hs, ho, hm⟩ := hrel
    have z0 : wr.cell? ⟨g, 0, none⟩ = some (.slice ao n cap) := by
      have := hs.out.own.c 0
      rw [hvt.out] at this
      exact this
    have z1 : wr.cell? ⟨g, 1, none⟩ = some (.slice aw n cw) := by
      have := hs.out.own.c 1
      rw [hvw.out] at this
      exact this
    by_cases hlt : k < n
    · have hkt : Hid (k < s.tags.length) := Lib.hid (by rw [hn.out]; exact hlt)
      have hka : Hid (k < s.at_.length) := Lib.hid (by rw [hlen.out]; exact hlt)
      obtain ⟨b, off, rfl, d0, hb⟩ := ((show Row wr _ 1 encS (.slice ao n cap) s.tags from hvt.out ▸ hs.out.tags).at encS_len).one (f := fun s => .string s) k hkt.out
      obtain ⟨x, hx⟩ : ∃ x, s.tags[k]'hkt.out = x := ⟨_, rfl⟩
      rw [hx] at d0
      replace hx := Lib.hid hx
      obtain ⟨b2, off2, rfl, f0, hb2⟩ := ((show Row wr _ 1 encN (.slice aw n cw) s.at_ from hvw.out ▸ hs.out.wher).at encN_len).one (f := fun n : Nat => Value.int .i64 (n : Int)) k hka.out
      obtain ⟨y, hy⟩ : ∃ y, s.at_[k]'hka.out = y := ⟨_, rfl⟩
      rw [hy] at f0
      replace hy := Lib.hid hy
      by_cases h2 : y = 2
      · subst h2
        have hst : Hid (out ++ missS (s.tags.drop (k + 1)) (s.at_.drop (k + 1)) = missS s.tags s.at_) := Lib.hid (by
          have := hr.out.2
          rwa [miss_step hkt.out hka.out, hy.out, if_pos rfl] at this)
        clear hb hb2
        go_wp2_with fail
        go_roundg (n - (k + 1))
        case measure => have := hr.out.1; omega
        case rel => exact ⟨k + 1, out, _, rfl, by omega, by go_num, Lib.hid ⟨rfl, hst.out⟩, HB, hs, ho, Lib.hid (by have := hm.out; omega)⟩
      · have h3 : ((y : Int) != 2) = true := by simp; omega
        have hst : Hid ((out ++ [x]) ++ missS (s.tags.drop (k + 1)) (s.at_.drop (k + 1)) = missS s.tags s.at_) := Lib.hid (by
          have := hr.out.2
          rwa [miss_step hkt.out hka.out, hy.out, if_neg h2, hx.out, List.append_cons] at this)
        clear hb hb2 h2
        go_wp2_with (at_builtin; refine wpList_append_own_at _ rfl _ _ 48 rfl w.heap.size 9 i0 (.string ⟨#[]⟩) 1 16 Tryz.underlying48 hi hz0 hz1 hz2 rfl (by decide) _ _ _ rfl (World.ownsRow.alloc ho.out _) ⟨wr.heap.size, 0, none⟩ 1 1 [.string x] rfl rfl (cell_one_new _ _ _) (by intro u hu; simp at hu; subst hu; rfl) (by have := hm.out; unfold maxLen; omega) (by have := hm.out; omega) (by have := HB.size; simp; omega) ?_)
        intro v' w1 ho1 hg1 hnil hloc
        have hg2 : wr.grownBy w1 v.ownBlock := (World.grownBy_alloc _ _ _).trans hg1
        have hb1 : Below w.heap.size w w1 := HB.grown hg2 (by have := HB.size; omega) (fun j hj => by
          obtain ⟨_, ⟨q1, _⟩ | ⟨q, _, _, q1, q2, _⟩⟩ := ho.out
          · rw [q1] at hj; cases hj
          · rw [q1] at hj; injection hj with hj; have hj : q = j := hj; omega)
        have hs1 : Hid (SiteW w1 g s p) := Lib.hid (hs0.out.bel hb1)
        have ho2 : Hid (w1.ownsRow w.heap.size 9 1 v' (out ++ [x]).length ((out ++ [x]).flatMap encS)) := Lib.hid (by
          rw [List.length_append, List.flatMap_append]
          exact ho1)
        clear hg1 hg2 hnil hloc ho1 z0 z1 d0 f0
        go_wp2_with fail
        go_roundg (n - (k + 1))
        case measure => have := hr.out.1; omega
        case rel => exact ⟨k + 1, out ++ [x], _, rfl, by omega, by go_num, Lib.hid ⟨rfl, hst.out⟩, hb1, hs1, ho2, Lib.hid (by have := hm.out; rw [List.length_append]; simp; omega)⟩
    · have hE : Hid (out = missS s.tags s.at_) := Lib.hid (by
        have := hr.out.2
        rwa [miss_end (by have := hn.out; omega), List.append_nil] at this)
      go_wp2_with fail
      go_ret
      exact ⟨⟨v, rfl, Lib.hid (by rw [← hE.out]; exact ho.out)⟩, HB⟩

set_option maxRecDepth 100000 in
set_option maxHeartbeats 1000000 in
theorem refmissing_any (s : St) (hok : s.ok) (g : Nat) (p : RV) (w : World) (hs : RefW w g s p) :
    Calls Tryz.prog 30 #[.pointer (some ⟨g, 0, none⟩)] w fun e w' => (∃ v, e = .returned v ∧ Hid (w'.ownsRow w.heap.size 9 1 v (missS s.tags s.at_).length ((missS s.tags s.at_).flatMap encS))) ∧ Below w.heap.size w w' := by
  obtain ⟨i0, hi, hz0, hz1, hz2⟩ := info_parts infoStr
  obtain ⟨bl, hbl, hrow⟩ := hs.tags
  obtain ⟨ao, cap, hvt, hl, hc, -, -⟩ := hrow.view encB_len
  have hbn : bl.length = s.tags.length := by rw [← hbl, List.length_map]
  rw [hbn] at hl hvt
  clear hrow hbn hbl
  obtain ⟨aw, cw, hvw, hl2, hc2, -, -⟩ := hs.wher.view encN_len
  rw [hok.len] at hl2 hvw
  obtain ⟨n, hn⟩ : ∃ n, s.tags.length = n := ⟨_, rfl⟩
  have hn1 : n ≤ 1000 := by have := hok.tagsN; omega
  have hlen := hok.len
  rw [hn] at hl hl2 hlen hvt hvw
  replace hn := Lib.hid hn
  replace hlen := Lib.hid hlen
  have hle := Lib.hid hok.le
  replace hs := Lib.hid hs
  clear hok
  have z0 : w.cell? ⟨g, 0, none⟩ = some (.slice ao n cap) := by
    have := hs.out.own.c 0
    rw [hvt] at this
    exact this
  replace hvt := Lib.hid hvt
  replace hvw := Lib.hid hvw
  go_enter Tryz.func30, Tryz.ntmps30
  go_wp2_with fail
  go_loopg [4, 3] n (fun g1 i v wr => ∃ (k : Nat) (out : List ByteArray) (v0 : Value), v0 = v ∧ k ≤ n ∧ i = .int .i64 (k : Int) ∧ Hid (g1 = n - k ∧ out ++ missS (s.tags.drop k) (s.at_.drop k) = missS s.tags s.at_) ∧ Below w.heap.size w wr ∧ Hid (RefW wr g s p) ∧ Hid (wr.ownsRow w.heap.size 9 1 v out.length (out.flatMap encS)) ∧ Hid (out.length ≤ k))
  case atStart => exact ⟨0, [], _, rfl, Nat.zero_le _, rfl, Lib.hid ⟨rfl, rfl⟩, Below.refl _ _, hs, Lib.hid (World.ownsRow_nil _ _ _ _), Lib.hid (Nat.le_refl _)⟩
  case round =>
    have hs0 := hs
    clear hs z0
    obtain ⟨k, out, v, rfl, hk, rfl, hr, HB, hs, ho, hm⟩ := hrel
    have z0 : wr.cell? ⟨g, 0, none⟩ = some (.slice ao n cap) := by
      have := hs.out.own.c 0
      rw [hvt.out] at this
      exact this
    have z1 : wr.cell? ⟨g, 1, none⟩ = some (.slice aw n cw) := by
      have := hs.out.own.c 1
      rw [hvw.out] at this
      exact this
    by_cases hlt : k < n
    · have hkt : Hid (k < s.tags.length) := Lib.hid (by rw [hn.out]; exact hlt)
      have hka : Hid (k < s.at_.length) := Lib.hid (by rw [hlen.out]; exact hlt)
      obtain ⟨x, b, off, rfl, d0, hb, hx⟩ : ∃ x b off, ao = some ⟨b, off, none⟩ ∧ wr.cell? ⟨b, off + k * 4, none⟩ = some (.string x) ∧ b < wr.heap.size ∧ Hid (s.tags[k]'hkt.out = x) := by
        obtain ⟨bl', hbl', hrow'⟩ := hs.out.tags
        have hbn' : bl'.length = s.tags.length := by rw [← hbl', List.length_map]
        have hk' : k < bl'.length := by rw [hbn']; exact hkt.out
        obtain ⟨b, off, e, d0, d1, d2, d3, hb⟩ := ((show Row wr _ 4 encB (.slice ao n cap) bl' from hvt.out ▸ hrow').at encB_len).bun k hk'
        exact ⟨_, b, off, e, d0, hb, Lib.hid (by simp only [← hbl', List.getElem_map])⟩
      obtain ⟨b2, off2, rfl, f0, hb2⟩ := ((show Row wr _ 1 encN (.slice aw n cw) s.at_ from hvw.out ▸ hs.out.wher).at encN_len).one (f := fun n : Nat => Value.int .i64 (n : Int)) k hka.out
      obtain ⟨y, hy⟩ : ∃ y, s.at_[k]'hka.out = y := ⟨_, rfl⟩
      rw [hy] at f0
      replace hy := Lib.hid hy
      by_cases h2 : y = 2
      · subst h2
        have hst : Hid (out ++ missS (s.tags.drop (k + 1)) (s.at_.drop (k + 1)) = missS s.tags s.at_) := Lib.hid (by
          have := hr.out.2
          rwa [miss_step hkt.out hka.out, hy.out, if_pos rfl] at this)
        clear hb hb2
        go_wp2_with fail
        go_roundg (n - (k + 1))
        case measure => have := hr.out.1; omega
        case rel => exact ⟨k + 1, out, _, rfl, by omega, by go_num, Lib.hid ⟨rfl, hst.out⟩, HB, hs, ho, Lib.hid (by have := hm.out; omega)⟩
      · have h3 : ((y : Int) != 2) = true := by simp; omega
        have hst : Hid ((out ++ [x]) ++ missS (s.tags.drop (k + 1)) (s.at_.drop (k + 1)) = missS s.tags s.at_) := Lib.hid (by
          have := hr.out.2
          rwa [miss_step hkt.out hka.out, hy.out, if_neg h2, hx.out, List.append_cons] at this)
        clear hb hb2 h2
        go_wp2_with (at_builtin; refine wpList_append_own_at _ rfl _ _ 48 rfl w.heap.size 9 i0 (.string ⟨#[]⟩) 1 16 Tryz.underlying48 hi hz0 hz1 hz2 rfl (by decide) _ _ _ rfl (World.ownsRow.alloc ho.out _) ⟨wr.heap.size, 0, none⟩ 1 1 [.string x] rfl rfl (cell_one_new _ _ _) (by intro u hu; simp at hu; subst hu; rfl) (by have := hm.out; unfold maxLen; omega) (by have := hm.out; omega) (by have := HB.size; simp; omega) ?_)
        intro v' w1 ho1 hg1 hnil hloc
        have hg2 : wr.grownBy w1 v.ownBlock := (World.grownBy_alloc _ _ _).trans hg1
        have hb1 : Below w.heap.size w w1 := HB.grown hg2 (by have := HB.size; omega) (fun j hj => by
          obtain ⟨_, ⟨q1, _⟩ | ⟨q, _, _, q1, q2, _⟩⟩ := ho.out
          · rw [q1] at hj; cases hj
          · rw [q1] at hj; injection hj with hj; have hj : q = j := hj; omega)
        have hs1 : Hid (RefW w1 g s p) := Lib.hid (hs0.out.bel hb1)
        have ho2 : Hid (w1.ownsRow w.heap.size 9 1 v' (out ++ [x]).length ((out ++ [x]).flatMap encS)) := Lib.hid (by
          rw [List.length_append, List.flatMap_append]
          exact ho1)
        clear hg1 hg2 hnil hloc ho1 z0 z1 d0 f0
        go_wp2_with fail
        go_roundg (n - (k + 1))
        case measure => have := hr.out.1; omega
        case rel => exact ⟨k + 1, out ++ [x], _, rfl, by omega, by go_num, Lib.hid ⟨rfl, hst.out⟩, hb1, hs1, ho2, Lib.hid (by have := hm.out; rw [List.length_append]; simp; omega)⟩
    · have hE : Hid (out = missS s.tags s.at_) := Lib.hid (by
        have := hr.out.2
        rwa [miss_end (by have := hn.out; omega), List.append_nil] at this)
      go_wp2_with fail
      go_ret
      exact ⟨⟨v, rfl, Lib.hid (by rw [← hE.out]; exact ho.out)⟩, HB⟩

end Go.Proofs.YtpocmijfkjjboaaGreatDoor
