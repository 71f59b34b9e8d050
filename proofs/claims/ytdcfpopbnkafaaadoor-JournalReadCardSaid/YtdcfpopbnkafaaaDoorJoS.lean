/- journal: the laws' long; the reference's Encode. -/
import Derived.Test.YtdcfpopbnkafaaaDoorJoR
set_option linter.unusedVariables false
namespace Go.Proofs.YtdcfpopbnkafaaaDoor
open Go.ChangeShapes Go.WideShapes Go.ChangeAt Go.RowKit

open Go.Lib (decDigits itoa itoa_nonneg)
set_option maxRecDepth 100000 in
theorem long_any (d k : Int) (x : ByteArray) (w : World) : Calls Tryd.prog 35 #[.agg #[.int .i64 d, .int .i64 k, .string x]] w fun e w' => e = .returned (.bool (decide (60 < x.size))) ∧ Below w.heap.size w w' := by
  by_cases h : 60 < x.size
  · rw [decide_eq_true h]
    go_enter Tryd.func35, Tryd.ntmps35
    go_wp2_with fail
    go_ret
    exact ⟨by first | rfl | (congr 2; simp; omega), (by repeat (first | with_reducible assumption | with_reducible exact Below.refl _ _ | with_reducible refine below_al ?_ _ | with_reducible refine below_drew ?_ | with_reducible refine below_drewN ?_ _ | with_reducible refine below_set ?_ (by dsimp only; omega) _))⟩
  · rw [decide_eq_false h]
    go_enter Tryd.func35, Tryd.ntmps35
    go_wp2_with fail
    go_ret
    exact ⟨by first | rfl | (congr 2; simp; omega), (by repeat (first | with_reducible assumption | with_reducible exact Below.refl _ _ | with_reducible refine below_al ?_ _ | with_reducible refine below_drew ?_ | with_reducible refine below_drewN ?_ _ | with_reducible refine below_set ?_ (by dsimp only; omega) _))⟩
def shortE (l : List Ent) : Bool := l.all fun x => decide (x.name.size ≤ 60)

set_option maxRecDepth 100000 in
set_option maxHeartbeats 1000000 in
theorem idxFuncE_any (l : List Ent) (ao : Option Addr) (cap : Nat) (hl : l.length ≤ cap) (hc : cap ≤ 9223372036854775807) (B : Nat) (w : World) (hB : B ≤ w.heap.size) (ha : Hid (RowAt encE 3 B w ao l)) :
    Calls Tryd.prog 49 #[.slice ao l.length cap, .func (.func 35) #[] #[]] w fun e w' => (∃ i : Int, e = .returned (.int .i64 i) ∧ (shortE l = true ∧ i = -1 ∨ shortE l = false ∧ 0 ≤ i)) ∧ Below w.heap.size w w' := by
  obtain ⟨n, hn⟩ : ∃ n, l.length = n := ⟨_, rfl⟩
  rw [hn] at hl ⊢
  replace hn := Lib.hid hn
  go_enter Tryd.func49, Tryd.ntmps49
  go_wp2_with fail
  go_loopg [8] n (fun g i wr => ∃ k : Nat, k ≤ n ∧ i = .int .i64 (k : Int) ∧ Hid (g = n - k ∧ shortE (l.take k) = true) ∧ Below w.heap.size w wr ∧ Hid (RowAt encE 3 B wr ao l))
  case atStart => exact ⟨0, Nat.zero_le _, rfl, Lib.hid ⟨rfl, rfl⟩, Below.refl _ _, ha⟩
  case round =>
    clear ha
    obtain ⟨k, hk, rfl, hr, HB, ha⟩ := hrel
    by_cases hlt : k < n
    · have hkl : Hid (k < l.length) := Lib.hid (by rw [hn.out]; exact hlt)
      obtain ⟨b, off, rfl, c0, c1, c2, hb⟩ := ha.out.ent k hkl.out
      obtain ⟨x, hx⟩ : ∃ x, l[k]'hkl.out = x := ⟨_, rfl⟩
      rw [hx] at c0 c1 c2
      replace hx := Lib.hid hx
      obtain ⟨xd, xk, xn⟩ := x
      dsimp only at c0 c1 c2
      have HC := Lib.hid (fun w => long_any xd xk xn w)
      cases hv : decide (60 < xn.size)
      · rw [hv] at HC
        replace hv := Lib.hid (of_decide_eq_false hv)
        go_wp2_with fail
        refine (HC.out _).mono ?_
        rintro e w1 ⟨rfl, hb1⟩
        have ha' := Lib.hid (ha.out.bel (Nat.le_trans hB HB.size) hb1)
        replace HB := below_then HB hb1
        clear hb1 c0 c1 c2 ha hb
        go_wp2_with fail
        go_roundg (n - (k + 1))
        case measure => have := hr.out.1; omega
        case rel =>
          refine ⟨k + 1, by omega, by go_num, Lib.hid ⟨rfl, ?_⟩, HB, ha'⟩
          unfold shortE
          rw [List.take_succ_eq_append_getElem hkl.out, List.all_append, show (List.all (List.take k l) fun x => decide (x.name.size ≤ 60)) = true from hr.out.2, hx.out]
          have := hv.out
          simp
          omega
      · rw [hv] at HC
        have hE : Hid (shortE l = false) := Lib.hid (by
          unfold shortE
          cases h : l.all fun x => decide (x.name.size ≤ 60)
          · rfl
          · have := List.all_eq_true.1 h _ (List.getElem_mem hkl.out)
            rw [hx.out] at this
            have h1 := of_decide_eq_true hv
            have h2 : xn.size ≤ 60 := of_decide_eq_true this
            omega)
        clear hv
        go_wp2_with fail
        refine (HC.out _).mono ?_
        rintro e w1 ⟨rfl, hb1⟩
        replace HB := below_then HB hb1
        clear hb1
        go_wp2_with fail
        go_ret
        exact ⟨⟨(k : Int), rfl, .inr ⟨hE.out, by omega⟩⟩, HB⟩
    · have hE : Hid (shortE l = true) := Lib.hid (by
        have := hr.out.2
        rwa [List.take_of_length_le (by have := hn.out; omega)] at this)
      go_wp2_with fail
      go_ret
      exact ⟨⟨-1, rfl, .inl ⟨hE.out, rfl⟩⟩, HB⟩

set_option maxRecDepth 100000 in
set_option maxHeartbeats 1000000 in
theorem containsFuncE_any (l : List Ent) (ao : Option Addr) (cap : Nat) (hl : l.length ≤ cap) (hc : cap ≤ 9223372036854775807) (B : Nat) (w : World) (hB : B ≤ w.heap.size) (ha : Hid (RowAt encE 3 B w ao l)) :
    Calls Tryd.prog 34 #[.slice ao l.length cap, .func (.func 35) #[] #[]] w fun e w' => e = .returned (.bool (!shortE l)) ∧ Below w.heap.size w w' := by
  have H := idxFuncE_any l ao cap hl hc B w hB ha
  obtain ⟨n, hn⟩ : ∃ n, l.length = n := ⟨_, rfl⟩
  rw [hn] at H ⊢
  clear hn
  generalize shortE l = b at *
  replace H := Lib.hid H
  go_enter Tryd.func34, Tryd.ntmps34
  go_wp2_with fail
  refine (H.out).mono ?_
  rintro e w1 ⟨⟨i, rfl, h⟩, HB⟩
  rcases h with ⟨rfl, rfl⟩ | ⟨rfl, h⟩
  · go_wp2_with fail
    go_ret
    exact ⟨rfl, HB⟩
  · go_wp2_with fail
    go_ret
    exact ⟨rfl, HB⟩


def longE (l : List Ent) : Bool := decide (20 < l.length) && decide (l.length ≤ 1000) || decide (1005 < l.length) || !shortE l
theorem longE_no {l : List Ent} (h : longE l = false) : (l.length ≤ 20 ∨ (1000 < l.length ∧ l.length ≤ 1005)) ∧ ∀ x ∈ l, x.name.size ≤ 60 := by
  unfold longE at h
  simp only [Bool.or_eq_false_iff, Bool.and_eq_false_iff, decide_eq_false_iff_not, Bool.not_eq_false'] at h
  obtain ⟨⟨h1, h2⟩, h3⟩ := h
  exact ⟨by omega, fun x hx => by simpa using List.all_eq_true.1 h3 x hx⟩
set_option maxRecDepth 100000 in
set_option maxHeartbeats 1000000 in
theorem longE_v (l : List Ent) (v : Value) (w : World) (h : IsE l v w) :
    Calls Tryd.prog 15 #[v] w fun e w' => e = .returned (.bool (longE l)) ∧ Below w.heap.size w w' := by
  obtain ⟨a, c, rfl, h1, h2, h3⟩ := h
  have HC := Lib.hid (containsFuncE_any l a c h1 h2 _ w (Nat.le_refl _) (Lib.hid h3))
  unfold longE
  generalize shortE l = b2 at *
  obtain ⟨n, hn⟩ : ∃ n, l.length = n := ⟨_, rfl⟩
  rw [hn] at HC ⊢
  clear hn h3 h1
  by_cases t1 : 20 < n
  · have z1 : decide ((20 : Int) < (n : Int)) = true := by simp; omega
    by_cases t2 : n ≤ 1000
    · have z2 : decide ((n : Int) ≤ 1000) = true := by simp; omega
      have hE : Hid ((decide (20 < n) && decide (n ≤ 1000) || decide (1005 < n) || !b2) = true) := Lib.hid (by simp [t1, t2])
      clear t1 t2
      go_enter Tryd.func15, Tryd.ntmps15
      go_wp2_with fail
      go_ret
      exact ⟨by rw [hE.out]; rfl, Below.refl _ _⟩
    · have z2 : decide ((n : Int) ≤ 1000) = false := by simp; omega
      by_cases t3 : 1005 < n
      · have z3 : decide ((1005 : Int) < (n : Int)) = true := by simp; omega
        have hE : Hid ((decide (20 < n) && decide (n ≤ 1000) || decide (1005 < n) || !b2) = true) := Lib.hid (by simp [t3])
        clear t1 t2 t3
        go_enter Tryd.func15, Tryd.ntmps15
        go_wp2_with fail
        go_ret
        exact ⟨by rw [hE.out]; rfl, Below.refl _ _⟩
      · have z3 : decide ((1005 : Int) < (n : Int)) = false := by simp; omega
        have hE : Hid ((decide (20 < n) && decide (n ≤ 1000) || decide (1005 < n) || !b2) = !b2) := Lib.hid (by simp [t2, t3])
        clear t1 t2 t3
        go_enter Tryd.func15, Tryd.ntmps15
        go_wp2_with fail
        refine (HC.out).mono ?_
        rintro e w1 ⟨rfl, HB⟩
        cases b2
        · go_wp2_with fail
          go_ret
          exact ⟨by rw [hE.out]; rfl, HB⟩
        · go_wp2_with fail
          go_ret
          exact ⟨by rw [hE.out]; rfl, HB⟩
  · have z1 : decide ((20 : Int) < (n : Int)) = false := by simp; omega
    have z3 : decide ((1005 : Int) < (n : Int)) = false := by simp; omega
    have hE : Hid ((decide (20 < n) && decide (n ≤ 1000) || decide (1005 < n) || !b2) = !b2) := Lib.hid (by simp [t1]; omega)
    clear t1
    go_enter Tryd.func15, Tryd.ntmps15
    go_wp2_with fail
    refine (HC.out).mono ?_
    rintro e w1 ⟨rfl, HB⟩
    cases b2
    · go_wp2_with fail
      go_ret
      exact ⟨by rw [hE.out]; rfl, HB⟩
    · go_wp2_with fail
      go_ret
      exact ⟨by rw [hE.out]; rfl, HB⟩
theorem valid_v (l : List Ent) (v : Value) (w : World) (hs : ∀ x ∈ l, x.name.size ≤ 10000) (h : IsE l v w) :
    Calls Tryd.prog 17 #[v] w fun e w' => e = .returned (.bool (logV l)) ∧ Below w.heap.size w w' := by
  obtain ⟨a, c, rfl, h1, h2, h3⟩ := h
  exact jvalid_any l a c h1 h2 (Lib.hid fun x hx => by have := hs x hx; omega) w (Lib.hid h3)
theorem refvalid_v (l : List Ent) (v : Value) (w : World) (hs : ∀ x ∈ l, x.name.size ≤ 10000) (h : IsE l v w) :
    Calls Tryd.prog 18 #[v] w fun e w' => e = .returned (.bool (logV l)) ∧ w = w' := by
  obtain ⟨a, c, rfl, h1, h2, h3⟩ := h
  exact jvalid43_any l a c h1 h2 (Lib.hid fun x hx => by have := hs x hx; omega) w (Lib.hid h3)
theorem enc_v (l : List Ent) (v : Value) (w : World) (hs : ∀ x ∈ l, x.name.size ≤ 10000) (he : Env w) (h : IsE l v w) :
    Calls Tryd.prog 16 #[v] w fun e w' => EncP l (logV l) e w' ∧ Below w.heap.size w w' := by
  obtain ⟨a, c, rfl, h1, h2, h3⟩ := h
  exact encode_v l a c h1 h2 hs w he h3

set_option maxRecDepth 100000 in
set_option maxHeartbeats 2000000 in
theorem refencode_v (l : List Ent) (v : Value) (w : World) (hv : logV l = true) (h : IsE l v w) :
    Calls Tryd.prog 19 #[v] w fun e w' => (∃ y, e = .returned y ∧ Hid (IsB (encJ l) y w')) ∧ Below w.heap.size w w' := by
  obtain ⟨iU, hu, hu0, hu1, hu2⟩ := info_parts infoU8
  obtain ⟨ao, cap, rfl, hl, hc, ha⟩ := h
  have hgood : Hid (l.length ≤ 1000 ∧ ∀ x ∈ l, entOk x = true) := Lib.hid (by
    refine ⟨?_, fun x hx => logV_ent hv hx⟩
    unfold logV at hv
    simp only [Bool.and_eq_true, decide_eq_true_eq] at hv
    exact hv.1.1)
  have up2 : Hid (∀ u, Below w.heap.size w u → RowAt encE 3 u.heap.size u ao l) := Lib.hid fun u hb => (ha.bel (Nat.le_refl _) hb).mono hb.size
  obtain ⟨n, hn⟩ : ∃ n, l.length = n := ⟨_, rfl⟩
  rw [hn] at hl ⊢
  replace hn := Lib.hid hn
  have hn1 : n ≤ 1000 := by rw [← hn.out]; exact hgood.out.1
  clear ha hv
  go_enter Tryd.func19, Tryd.ntmps19
  go_wp2_with fail
  go_loopg [4, 3] n (fun g i v wr => ∃ (k : Nat) (v0 : Value), v0 = v ∧ k ≤ n ∧ i = .int .i64 (k : Int) ∧ Hid (g = n - k) ∧ Below w.heap.size w wr ∧ Hid (wr.ownsRow w.heap.size 5 1 v (encJ (l.take k)).length ((encJ (l.take k)).flatMap encU)))
  case atStart => exact ⟨0, _, rfl, Nat.zero_le _, rfl, Lib.hid rfl, Below.refl _ _, Lib.hid (World.ownsRow_nil _ _ _ _)⟩
  case round =>
    obtain ⟨k, v, rfl, hk, rfl, hr, HB, ho⟩ := hrel
    by_cases hlt : k < n
    · have hkl : Hid (k < l.length) := Lib.hid (by rw [hn.out]; exact hlt)
      obtain ⟨b, off, rfl, e0, e1, e2, hb⟩ := (up2.out wr HB).ent k hkl.out
      have hx1 := Lib.hid (rec_len (p := encJ (l.take k)) (hgood.out.2 _ (List.getElem_mem hkl.out)))
      have hx2 := Lib.hid (hgood.out.2 _ (List.getElem_mem hkl.out))
      have hJ := Lib.hid (encJ_take hkl.out)
      have hz : Hid ((encJ (l.take k)).length ≤ 70 * k) := Lib.hid (by
        have := enc_len (l.take k) [] (fun x hx => hgood.out.2 x (List.mem_of_mem_take hx))
        simp only [List.length_nil, List.length_take] at this
        show (encF [] (l.take k)).length ≤ _
        omega)
      obtain ⟨x, hx⟩ : ∃ x, l[k]'hkl.out = x := ⟨_, rfl⟩
      rw [hx] at e0 e1 e2 hx1 hx2 hJ
      clear hx hb
      obtain ⟨xd, xk, xn⟩ := x
      dsimp only at e0 e1 e2 hx1
      obtain ⟨J, hJ0⟩ : ∃ J, encJ (l.take k) = J := ⟨_, rfl⟩
      rw [hJ0] at ho hx1 hJ hz
      clear hJ0
      have hbd : Hid ((0 ≤ xd ∧ xd ≤ 9223372036854775807) ∧ (0 ≤ xk ∧ xk ≤ 9223372036854775807)) := Lib.hid (by
        have h := hx2.out
        unfold entOk at h
        simp only [Bool.and_eq_true, decide_eq_true_eq] at h
        omega)
      have HR := Lib.hid (refrecord_v J v (by have := hz.out; omega) xd xk xn hbd.out.1 hbd.out.2 (by have := hx1.out.2; omega) wr (row_isB ho.out))
      go_wp2_with fail
      refine HR.out.mono ?_
      rintro e w4 ⟨⟨y, rfl, hy⟩, hb4⟩
      replace HB := below_then HB hb4
      replace ho := Lib.hid (World.ownsRow_up ho.out hb4)
      have hyz : Hid (J.length + y.size ≤ 100000) := Lib.hid (by
        have h1 := congrArg List.length hy.out
        rw [by_len] at h1
        have := hx1.out.1; have := hz.out; omega)
      clear hb4 HR e0 e1 e2 hx1 hx2 hbd hz
      go_wp2_with (at_builtin; refine Lib.wpList_append_own_string _ rfl _ _ 22 9 rfl w.heap.size 5 iU Tryd.underlying22 Tryd.underlying9 hu hu0 hu1 hu2 _ _ _ rfl ho.out _ rfl (by have := hyz.out; unfold maxLen; omega) (by have := hyz.out; omega) (by have := HB.size; omega) ?_)
      intro v' w5 ho1 hg1 hnil
      have hb5 : Below w.heap.size w w5 := below_grown HB hg1 (fun b hb => (own_lt ho.out hb).2)
      have ho2 : Hid (w5.ownsRow w.heap.size 5 1 v' (encJ (l.take (k + 1))).length ((encJ (l.take (k + 1))).flatMap encU)) := Lib.hid (by
        rw [hJ.out, List.length_append, List.flatMap_append, ← hy.out, by_len, ← strCells_enc]
        exact ho1)
      clear hg1 hnil ho1
      go_wp2_with fail
      go_roundg (n - (k + 1))
      case measure => have := hr.out; omega
      case rel => exact ⟨k + 1, v', rfl, by omega, by go_num, Lib.hid rfl, hb5, ho2⟩
    · have hE : Hid (l.take k = l) := Lib.hid (List.take_of_length_le (by have := hn.out; omega))
      rw [hE.out] at ho
      go_wp2_with fail
      exact bodyPost_ret (v := v) (by simp [results, Tryd.results19, go_sem]) rfl ⟨⟨v, rfl, Lib.hid (row_isB ho.out)⟩, HB⟩

end Go.Proofs.YtdcfpopbnkafaaaDoor
