/- journal: a number; the entry of a line. -/
import Derived.Test.YtcokobdffbhpeaaGreatDoorCJ23
import Derived.Lib.AtoiAllCases
set_option linter.unusedVariables false
namespace Go.Proofs.YtcokobdffbhpeaaGreatDoor
open Go.ChangeShapes Go.WideShapes Go.ChangeAt Go.RowKit
open Go.Lib (decDigits itoa itoa_nonneg atoiAll)
set_option maxRecDepth 100000 in
set_option maxHeartbeats 1000000 in
theorem integer_v (s : ByteArray) (hs : s.size ≤ 1000000) (w : World) (he : Env w) :
    Calls Tryz.prog 63 #[.string s] w fun e w' => (∃ n : Int, e = .returned (.tuple #[.int .i64 n, .bool (intO (by_ s)).isSome]) ∧ Hid (∀ q, intO (by_ s) = some q → n = (q : Int))) ∧ Below w.heap.size w w' := by
  obtain ⟨R, hR⟩ : ∃ R, (intO (by_ s)).isSome = R := ⟨_, rfl⟩
  rw [hR]
  have HA := Lib.hid (atoi_env s hs w he)
  have he' := Lib.hid he
  clear he
  go_enter Tryz.func63, Tryz.ntmps63
  go_wp2_with fail
  refine HA.out.mono ?_
  rintro e w1 ⟨⟨n, E, rfl, hq⟩, HB⟩
  replace he' := Lib.hid (he'.out.bel HB)
  clear HA
  rcases hq.out with ⟨rfl, ha⟩ | ⟨⟨N, rfl⟩, ha⟩
  rotate_left
  · have h0 := intO_bad ha
    have hE : Hid (R = false) := Lib.hid (by rw [← hR, h0]; rfl)
    have hV : Hid (∀ q, intO (by_ s) = some q → n = (q : Int)) := Lib.hid fun q h => by rw [h0] at h; cases h
    clear hR h0 ha hq
    go_wp2_with fail
    exact bodyPost_ret (v := .tuple #[.int .i64 n, .bool false]) (by simp [results, Tryz.results63, go_sem]) rfl ⟨⟨n, by rw [hE.out], hV⟩, HB⟩
  · obtain ⟨h1, h2⟩ := intO_atoi (by_ s) ha
    have hbd := Lib.atoiAll_bounds ha
    have hV : Hid (∀ q, intO (by_ s) = some q → n = (q : Int)) := Lib.hid fun q h => by
      have := h2 (by rw [h]; rfl)
      rw [h] at this
      injection this with this
      have h3 := h1.symm.trans (show (intO (by_ s)).isSome = (some q).isSome by rw [h])
      simp only [Option.isSome_some, Bool.and_eq_true, decide_eq_true_eq] at h3
      omega
    have h4 : (by_ s).length = s.size := rfl
    rw [hR, h4] at h1
    replace h1 := Lib.hid h1
    have HI := Lib.hid (itoa_tab n hbd w1 he'.out.tab)
    clear hR h2 ha hq h4 hbd he'
    by_cases c1 : 0 ≤ n
    rotate_left
    · have hE : Hid (R = false) := Lib.hid (by rw [h1.out, decide_eq_false c1]; rfl)
      go_wp2_with fail
      exact bodyPost_ret (v := .tuple #[.int .i64 n, .bool false]) (by simp [results, Tryz.results63, go_sem]) rfl ⟨⟨n, by rw [hE.out], hV⟩, HB⟩
    by_cases c2 : s.size ≤ 15
    rotate_left
    · have hE : Hid (R = false) := Lib.hid (by rw [h1.out, decide_eq_false c2]; simp)
      go_wp2_with fail
      exact bodyPost_ret (v := .tuple #[.int .i64 n, .bool false]) (by simp [results, Tryz.results63, go_sem]) rfl ⟨⟨n, by rw [hE.out], hV⟩, HB⟩
    have h5 : R = decide (itoa n = by_ s) := by rw [h1.out, decide_eq_true c1, decide_eq_true c2]; simp
    obtain ⟨T, hT⟩ : ∃ T : ByteArray, (⟨(itoa n).toArray⟩ : ByteArray) = T := ⟨_, rfl⟩
    have h6 : (itoa n = by_ s) ↔ T = s := by
      rw [← hT]
      constructor
      · intro h
        rw [h]
      · intro h
        rw [← h]
    rw [hT] at HI
    clear hT h1
    go_wp2_with fail
    refine HI.out.mono ?_
    rintro e w2 ⟨rfl, hb2⟩
    replace HB := below_then HB hb2
    clear hb2 HI
    by_cases c3 : T = s
    · have es := str_eq c3
      have hE : Hid (R = true) := Lib.hid (by rw [h5, decide_eq_true (h6.2 c3)])
      clear h5 h6 c3
      go_wp2_with fail
      exact bodyPost_ret (v := .tuple #[.int .i64 n, .bool true]) (by simp [results, Tryz.results63, go_sem]) rfl ⟨⟨n, by rw [hE.out], hV⟩, HB⟩
    · have es := str_ne c3
      have hE : Hid (R = false) := Lib.hid (by rw [h5, decide_eq_false (fun h => c3 (h6.1 h))])
      clear h5 h6 c3
      go_wp2_with fail
      exact bodyPost_ret (v := .tuple #[.int .i64 n, .bool false]) (by simp [results, Tryz.results63, go_sem]) rfl ⟨⟨n, by rw [hE.out], hV⟩, HB⟩
theorem readO_len {l : List UInt8} (h : (splitB 32 l).length ≠ 4) : readO l = none := by
  unfold readO
  split
  · rename_i a b c d hs
    rw [hs] at h
    exact absurd rfl h
  · rfl
theorem readO_name {l a b c d : List UInt8} (hs : splitB 32 l = [a, b, c, d]) (h : nameB c = false) : readO l = none := by
  unfold readO
  simp only [hs, h]
  rfl
theorem readO_four {l a b c d : List UInt8} (hs : splitB 32 l = [a, b, c, d]) (h : nameB c = true) : (readO l).isSome = ((intO a).isSome && (intO b).isSome && (intO d).isSome) ∧ ∀ x t, readO l = some (x, t) → ∃ p q, intO a = some p ∧ intO b = some q ∧ intO d = some t ∧ x = ⟨p, q, ⟨c.toArray⟩⟩ := by
  unfold readO
  simp only [hs, h, if_true]
  cases ha : intO a <;> cases hb : intO b <;> cases hd : intO d <;> simp
theorem entO_cut {b m : List UInt8} (h : cutN b = some m) : entO b = match readO m with | some (x, s) => some (x, s, m.length + 1) | none => none := by
  unfold entO
  rw [h]
  rfl
theorem entO_nocut {b : List UInt8} (h : cutN b = none) : entO b = none := by
  unfold entO
  rw [h]
theorem four_of {ws : List ByteArray} (h : ws.length = 4) : ∃ a b c d, ws = [a, b, c, d] := by
  match ws, h with
  | [a, b, c, d], _ => exact ⟨a, b, c, d, rfl⟩
theorem wordcell {w : World} {H B : Nat} {ws : List ByteArray} (h : RowAt encS 1 B w (some ⟨H, 0, none⟩) ws) (k : Nat) (hk : k < ws.length) : w.cell? ⟨H, k, none⟩ = some (.string ws[k]) := by
  obtain ⟨b, off, e, hc, _⟩ := h.one (f := fun s => .string s) k hk
  simp only [Option.some.injEq, Addr.mk.injEq, and_true] at e
  obtain ⟨rfl, rfl⟩ := e
  rw [Nat.zero_add] at hc
  exact hc
theorem word_len {m : List UInt8} {ws : List ByteArray} (h : ws.map by_ = splitB 32 m) : ∀ x ∈ ws, x.size ≤ m.length := by
  have key : ∀ (k : Nat) (m : List UInt8), m.length ≤ k → ∀ y ∈ splitB 32 m, y.length ≤ m.length := by
    intro k
    induction k with
    | zero =>
      intro m hm y hy
      obtain rfl := List.length_eq_zero_iff.1 (Nat.le_zero.1 hm)
      simp [splitB] at hy
      simp [hy]
    | succ k ih =>
      intro m hm y hy
      cases hs : splitB 32 m with
      | nil => exact absurd hs (splitB_ne _ _)
      | cons a r =>
        rw [hs] at hy
        obtain ⟨_, ⟨h1, h2⟩ | ⟨t, h1, h2⟩⟩ := splitB_back hs
        · subst h1
          simp at hy
          rw [hy, h2]
          exact Nat.le_refl _
        · have hl := congrArg List.length h2
          simp at hl
          rcases List.mem_cons.1 hy with rfl | q
          · omega
          · rw [h1] at q
            have := ih t (by omega) y q
            omega
  intro x hx
  have := key m.length m (Nat.le_refl _) (by_ x) (by rw [← h]; exact List.mem_map_of_mem hx)
  exact this
set_option maxRecDepth 100000 in
set_option maxHeartbeats 2000000 in
theorem entry_v (l : List UInt8) (v : Value) (hl : l.length ≤ 1000000) (w : World) (he : Env w) (hv : IsB l v w) :
    Calls Tryz.prog 44 #[v] w fun e w' => (∃ (d k : Int) (nm : ByteArray) (s n : Int) (ok : Bool), e = .returned (.tuple #[.agg #[.int .i64 d, .int .i64 k, .string nm], .int .i64 s, .int .i64 n, .bool ok]) ∧ Hid (∀ x t m, entO l = some (x, t, m) → ok = true ∧ x = ⟨d, k, nm⟩ ∧ s = (t : Int) ∧ n = (m : Int)) ∧ Hid (entO l = none → ok = false) ∧ Hid (nm.size ≤ l.length)) ∧ Below w.heap.size w w' := by
  obtain ⟨a, n, c, rfl, -, -⟩ := hv.shape
  have he' := Lib.hid he
  have hv' := Lib.hid hv
  clear he hv
  go_enter Tryz.func44, Tryz.ntmps44
  go_upto_region 1 with fail
  generalize hWW : World.alloc _ _ = W0
  have kz : At W0 w.heap.size 39 #[.int .i64 0, .int .i64 0, .string ⟨#[]⟩] := by rw [← hWW]; exact At.new' rfl
  have HB : Below w.heap.size w W0 := by rw [← hWW]; exact below_al (Below.refl _ _) _
  clear hWW
  go_wp2_with fail
  generalize hWW : World.alloc _ _ = W1
  have kS : W1.cell? ⟨W0.heap.size, 0, none⟩ = some (.int .u8 10) := by rw [← hWW]; exact (At.new W0 5 #[.int .u8 10]).c 0
  have hb : Below W0.heap.size W0 W1 := by rw [← hWW]; exact below_al (Below.refl _ _) _
  replace kz := At.bel kz hb
  replace HB := below_then HB hb
  replace he' := Lib.hid (he'.out.bel HB)
  replace hv' := Lib.hid (hv'.out.up HB)
  clear hWW hb
  refine (cut_v l _ W0.heap.size W1 hv'.out (by omega) kS).mono ?_
  rintro e w2 ⟨⟨v1, v2, fnd, m, rfl, q1, q2, q3⟩, hb⟩
  obtain ⟨b2, n2, c2, rfl⟩ := q3.out
  obtain ⟨b1, n1, c1, rfl, -, -⟩ := q1.out.shape
  have hml : m.length ≤ l.length := by
    rcases q2.out with ⟨h, _⟩ | ⟨_, h, _⟩
    · obtain ⟨_, r, e⟩ := cutN_iff.1 h
      have := congrArg List.length e
      simp at this
      omega
    · exact Nat.le_of_eq (congrArg List.length h)
  have hn1 : n1 = m.length := by obtain ⟨_, _, _, e, h, _⟩ := q1.out.shape; injection e with e1 e2 e3; omega
  replace kz := At.bel kz hb
  replace HB := below_then HB hb
  replace he' := Lib.hid (he'.out.bel hb)
  clear hb kS hv' q3
  obtain ⟨M, hM⟩ : ∃ M : ByteArray, (⟨m.toArray⟩ : ByteArray) = M := ⟨_, rfl⟩
  have hMb : by_ M = m := by rw [← hM]
  have hcv := q1.out.str
  rw [hM] at hcv
  have bM : M.size ≤ 1000000 := by rw [← by_len, hMb]; omega
  replace hml := Lib.hid hml
  replace hn1 := Lib.hid hn1
  replace hMb := Lib.hid hMb
  clear hM
  have HS := Lib.hid (split_v M (by omega) w2 he'.out)
  go_wp2_with fail
  refine HS.out.mono ?_
  rintro e w3 ⟨⟨ws, rfl, s1, s2⟩, hb⟩
  replace kz := At.bel kz hb
  replace HB := below_then HB hb
  replace he' := Lib.hid (he'.out.bel hb)
  rw [hMb.out] at s1
  obtain ⟨H, hH⟩ : ∃ H, w2.heap.size = H := ⟨_, rfl⟩
  rw [hH] at s2 ⊢
  clear hb HS hcv hH
  rcases q2.out with ⟨hc, rfl⟩ | ⟨hc, -, rfl⟩
  rotate_left
  · have hE : Hid (entO l = none) := Lib.hid (entO_nocut hc)
    clear hc q2 s1 s2
    obtain ⟨z0, z1, z2⟩ := kz.three
    have f0 := kz.f 0
    have f1 := kz.f 1
    have f2 := kz.f 2
    have Lz := kz.lt
    go_wp2_with fail
    generalize hWW : World.setCell _ _ _ = WW
    have kz' : At WW w.heap.size 39 #[.int .i64 0, .int .i64 0, .string ⟨#[]⟩] := by rw [← hWW]; simpa using ((kz.put 0 (.int .i64 0)).put 1 (.int .i64 0)).put 2 (.string ⟨#[]⟩)
    have HB' : Below w.heap.size w WW := by rw [← hWW]; exact below_set (below_set (below_set HB (Nat.le_refl _) _) (Nat.le_refl _) _) (Nat.le_refl _) _
    clear hWW z0 z1 z2 f0 f1 f2 kz HB
    obtain ⟨g0, g1, g2⟩ := kz'.three
    exact bodyPost_ret (v := .tuple #[.agg #[.int .i64 0, .int .i64 0, .string ⟨#[]⟩], .int .i64 0, .int .i64 0, .bool false]) (by simp [results, Tryz.results44, go_sem, g0, g1, g2]) rfl ⟨⟨0, 0, ⟨#[]⟩, 0, 0, false, rfl, Lib.hid (fun x t m h => by rw [hE.out] at h; cases h), Lib.hid (fun _ => rfl), Lib.hid (Nat.zero_le _)⟩, HB'⟩
  have hL := Lib.hid (word_len s1.out)
  by_cases h4 : ws.length = 4
  rotate_left
  · have hE : Hid (entO l = none) := Lib.hid (by
      rw [entO_cut hc, readO_len (by rw [← s1.out, List.length_map]; exact h4)])
    have h4' : ((ws.length : Int) != 4) = true := by simp; omega
    clear hc q2 s1 s2 h4
    obtain ⟨z0, z1, z2⟩ := kz.three
    have f0 := kz.f 0
    have f1 := kz.f 1
    have f2 := kz.f 2
    have Lz := kz.lt
    go_wp2_with fail
    generalize hWW : World.setCell _ _ _ = WW
    have kz' : At WW w.heap.size 39 #[.int .i64 0, .int .i64 0, .string ⟨#[]⟩] := by rw [← hWW]; simpa using ((kz.put 0 (.int .i64 0)).put 1 (.int .i64 0)).put 2 (.string ⟨#[]⟩)
    have HB' : Below w.heap.size w WW := by rw [← hWW]; exact below_set (below_set (below_set HB (Nat.le_refl _) _) (Nat.le_refl _) _) (Nat.le_refl _) _
    clear hWW z0 z1 z2 f0 f1 f2 kz HB
    obtain ⟨g0, g1, g2⟩ := kz'.three
    exact bodyPost_ret (v := .tuple #[.agg #[.int .i64 0, .int .i64 0, .string ⟨#[]⟩], .int .i64 0, .int .i64 0, .bool false]) (by simp [results, Tryz.results44, go_sem, g0, g1, g2]) rfl ⟨⟨0, 0, ⟨#[]⟩, 0, 0, false, rfl, Lib.hid (fun x t m h => by rw [hE.out] at h; cases h), Lib.hid (fun _ => rfl), Lib.hid (Nat.zero_le _)⟩, HB'⟩
  obtain ⟨A, Bk, C, D, rfl⟩ := four_of h4
  have bA := hL.out A (by simp)
  have bB := hL.out Bk (by simp)
  have bC := hL.out C (by simp)
  have bD := hL.out D (by simp)
  have bm := hml.out
  have k0 := wordcell s2.out 0 (by simp)
  have k1 := wordcell s2.out 1 (by simp)
  have k2 := wordcell s2.out 2 (by simp)
  have k3 := wordcell s2.out 3 (by simp)
  simp only [List.getElem_cons_zero, List.getElem_cons_succ] at k0 k1 k2 k3
  have hs : splitB 32 m = [by_ A, by_ Bk, by_ C, by_ D] := by rw [← s1.out]; rfl
  have HN := Lib.hid (isName_any C (by omega) w3)
  clear h4 s1 hL
  cases hnb : nameB (by_ C)
  · rw [hnb] at HN
    have hE : Hid (entO l = none) := Lib.hid (by
      rw [entO_cut hc, readO_name hs hnb])
    clear hc q2 s2 k0 k1 k3 hs hnb
    go_wp2_with fail
    refine HN.out.mono ?_
    rintro e w4 ⟨rfl, rfl⟩
    clear k2 HN
    obtain ⟨z0, z1, z2⟩ := kz.three
    have f0 := kz.f 0
    have f1 := kz.f 1
    have f2 := kz.f 2
    have Lz := kz.lt
    go_wp2_with fail
    generalize hWW : World.setCell _ _ _ = WW
    have kz' : At WW w.heap.size 39 #[.int .i64 0, .int .i64 0, .string ⟨#[]⟩] := by rw [← hWW]; simpa using ((kz.put 0 (.int .i64 0)).put 1 (.int .i64 0)).put 2 (.string ⟨#[]⟩)
    have HB' : Below w.heap.size w WW := by rw [← hWW]; exact below_set (below_set (below_set HB (Nat.le_refl _) _) (Nat.le_refl _) _) (Nat.le_refl _) _
    clear hWW z0 z1 z2 f0 f1 f2 kz HB
    obtain ⟨g0, g1, g2⟩ := kz'.three
    exact bodyPost_ret (v := .tuple #[.agg #[.int .i64 0, .int .i64 0, .string ⟨#[]⟩], .int .i64 0, .int .i64 0, .bool false]) (by simp [results, Tryz.results44, go_sem, g0, g1, g2]) rfl ⟨⟨0, 0, ⟨#[]⟩, 0, 0, false, rfl, Lib.hid (fun x t m h => by rw [hE.out] at h; cases h), Lib.hid (fun _ => rfl), Lib.hid (Nat.zero_le _)⟩, HB'⟩
  rw [hnb] at HN
  obtain ⟨g1, g2⟩ := readO_four hs hnb
  have hE1 : Hid ((entO l).isSome = ((intO (by_ A)).isSome && (intO (by_ Bk)).isSome && (intO (by_ D)).isSome)) := Lib.hid (by
    rw [entO_cut hc, ← g1]
    cases readO m with
    | none => rfl
    | some y => rfl)
  have hE2 : Hid (∀ x t q, entO l = some (x, t, q) → q = m.length + 1 ∧ ∃ p r, intO (by_ A) = some p ∧ intO (by_ Bk) = some r ∧ intO (by_ D) = some t ∧ x = ⟨p, r, C⟩) := Lib.hid (by
    intro x t q h
    rw [entO_cut hc] at h
    cases hr : readO m with
    | none => rw [hr] at h; cases h
    | some y =>
      rw [hr] at h
      obtain ⟨y1, y2⟩ := y
      simp only [Option.some.injEq, Prod.mk.injEq] at h
      obtain ⟨rfl, rfl, rfl⟩ := h
      obtain ⟨p, r, h1, h2, h3, h4⟩ := g2 _ _ hr
      exact ⟨rfl, p, r, h1, h2, h3, by rw [h4]⟩)
  have hcl := Lib.hid (show C.size ≤ l.length by omega)
  clear hc q2 hs hnb g1 g2
  go_wp2_with fail
  refine HN.out.mono ?_
  rintro e w4 ⟨rfl, rfl⟩
  clear HN
  obtain ⟨okA, hoA⟩ : ∃ okA, (intO (by_ A)).isSome = okA := ⟨_, rfl⟩
  obtain ⟨okB, hoB⟩ : ∃ okB, (intO (by_ Bk)).isSome = okB := ⟨_, rfl⟩
  obtain ⟨okD, hoD⟩ : ∃ okD, (intO (by_ D)).isSome = okD := ⟨_, rfl⟩
  have HA := Lib.hid (fun w h => integer_v A (by omega) w h)
  have HBk := Lib.hid (fun w h => integer_v Bk (by omega) w h)
  have HD := Lib.hid (fun w h => integer_v D (by omega) w h)
  rw [hoA] at HA hE1
  rw [hoB] at HBk hE1
  rw [hoD] at HD hE1
  clear hoA hoB hoD bA bB bC bD
  go_wp2_with fail
  refine (HA.out _ he'.out).mono ?_
  rintro e w5 ⟨⟨nA, rfl, vA⟩, hb⟩
  replace kz := At.bel kz hb
  replace HB := below_then HB hb
  replace he' := Lib.hid (he'.out.bel hb)
  replace k1 := (hb.cell (block_lt_of_cell k1)).trans k1
  replace k2 := (hb.cell (block_lt_of_cell k2)).trans k2
  replace k3 := (hb.cell (block_lt_of_cell k3)).trans k3
  clear hb k0
  go_wp2_with fail
  refine (HBk.out _ he'.out).mono ?_
  rintro e w6 ⟨⟨nB, rfl, vB⟩, hb⟩
  replace kz := At.bel kz hb
  replace HB := below_then HB hb
  replace he' := Lib.hid (he'.out.bel hb)
  replace k2 := (hb.cell (block_lt_of_cell k2)).trans k2
  replace k3 := (hb.cell (block_lt_of_cell k3)).trans k3
  clear hb k1
  go_wp2_with fail
  refine (HD.out _ he'.out).mono ?_
  rintro e w7 ⟨⟨nD, rfl, vD⟩, hb⟩
  replace kz := At.bel kz hb
  replace HB := below_then HB hb
  replace he' := Lib.hid (he'.out.bel hb)
  replace k2 := (hb.cell (block_lt_of_cell k2)).trans k2
  clear hb k3
  have w1 : IntKind.i64.wrap ((n1 : Int) + 1) = (n1 : Int) + 1 := IntWalk.i64_in _ (by have := hn1.out; omega)
  have hP : Hid (∀ x t q, entO l = some (x, t, q) → (okA && okB && okD) = true ∧ x = ⟨nA, nB, C⟩ ∧ nD = (t : Int) ∧ (n1 : Int) + 1 = (q : Int)) := Lib.hid (by
    intro x t q h
    obtain ⟨rfl, p, r, h1, h2, h3, rfl⟩ := hE2.out x t q h
    have h4 := hE1.out
    rw [h] at h4
    refine ⟨h4.symm, ?_, vD.out _ h3, by have := hn1.out; omega⟩
    rw [vA.out _ h1, vB.out _ h2])
  have hQ : Hid (entO l = none → (okA && okB && okD) = false) := Lib.hid (fun h => by
    have h4 := hE1.out
    rw [h] at h4
    exact h4.symm)
  clear hE1 hE2 vA vB vD he' hn1 hml hMb q1
  cases okA <;> cases okB <;> cases okD
  all_goals
    obtain ⟨z0, z1, z2⟩ := kz.three
    have f0 := kz.f 0
    have f1 := kz.f 1
    have f2 := kz.f 2
    have Lz := kz.lt
    go_wp2_with fail
    generalize hWW : World.setCell _ _ _ = WW
    have kz' : At WW w.heap.size 39 #[.int .i64 nA, .int .i64 nB, .string C] := by rw [← hWW]; simpa using ((kz.put 0 (.int .i64 nA)).put 1 (.int .i64 nB)).put 2 (.string C)
    have HB' : Below w.heap.size w WW := by rw [← hWW]; exact below_set (below_set (below_set HB (Nat.le_refl _) _) (Nat.le_refl _) _) (Nat.le_refl _) _
    clear hWW z0 z1 z2 f0 f1 f2 kz HB
    obtain ⟨g0, g1, g2⟩ := kz'.three
    exact bodyPost_ret (v := .tuple #[.agg #[.int .i64 nA, .int .i64 nB, .string C], .int .i64 nD, .int .i64 ((n1 : Int) + 1), .bool _]) (by simp [results, Tryz.results44, go_sem, g0, g1, g2]) rfl ⟨⟨nA, nB, C, nD, ((n1 : Int) + 1), _, rfl, hP, hQ, hcl⟩, HB'⟩
end Go.Proofs.YtcokobdffbhpeaaGreatDoor
