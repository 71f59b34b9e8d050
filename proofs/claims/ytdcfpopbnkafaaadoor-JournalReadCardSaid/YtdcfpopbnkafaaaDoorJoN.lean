/- journal's laws: the chapter's examples hold; heavy. -/
import Derived.Test.YtdcfpopbnkafaaaDoorJoM
set_option linter.unusedVariables false
namespace Go.Proofs.YtdcfpopbnkafaaaDoor
open Go.ChangeShapes Go.WideShapes Go.ChangeAt Go.RowKit

open Go.Lib (decDigits itoa itoa_nonneg)
theorem lit_isB (w : World) (C : Array Value) (l : List UInt8) (n : Nat) (hn : n = l.length) (hl : l.length ≤ 1000) (hC : C.toList = l.flatMap encU) (mk : Nat × Nat) : IsB l (.slice (some ⟨w.heap.size, 0, none⟩) n n) (w.alloc (.cells C 5 mk)) := by
  subst hn
  refine ⟨_, _, rfl, Nat.le_refl _, by omega, ?_, .inr ⟨_, _, rfl⟩⟩
  intro k hk
  refine ⟨w.heap.size, 0, rfl, by show w.heap.size < (w.heap.push _).size; simp, fun j u hu => ?_⟩
  have hj : j = 0 := by have := (List.getElem?_eq_some_iff.1 hu).1; rw [encU_len] at this; omega
  subst hj
  rw [cell_of_row _ w.heap.size (0 + k * 1 + 0) C 5 _ (heap_alloc_new w _), ← hu, ← Array.getElem?_toList, hC]
  have := flat_at encU_len l k hk 0 (by decide)
  rw [← this]
  congr 1
  omega
theorem bytesIn_of {l : List UInt8} {a : Option Addr} {n c : Nat} {w : World} (h : IsB l (.slice a n c) w) : Lib.BytesIn w a n (numsU l) := by
  obtain ⟨a', c', e, h2, h3, h4, h5⟩ := h
  injection e with e1 e2 e3
  subst e1 e2 e3
  by_cases hl : l.length = 0
  · rw [hl]
    exact Lib.BytesIn.nil w a (numsU l)
  · obtain ⟨b, off, rfl, _, _⟩ := h4.byte 0 (by omega)
    exact Lib.BytesIn.of_cells fun i hi => by
      obtain ⟨b', off', e, hc, _⟩ := h4.byte i hi
      simp only [Option.some.injEq, Addr.mk.injEq, and_true] at e
      obtain ⟨rfl, rfl⟩ := e
      have ea : (⟨b, off, none⟩ : Addr).add i = ⟨b, off + i, none⟩ := by cases i <;> simp [Addr.add]
      rw [ea, hc]
      simp [numsU, hi]
theorem pre_v (l1 l2 : List UInt8) (v1 v2 : Value) (w : World) (h1 : IsB l1 v1 w) (h2 : IsB l2 v2 w) :
    Calls Tryd.prog 28 #[v1, v2] w fun e w' => e = .returned (.bool (l2.isPrefixOf l1)) ∧ w = w' := by
  obtain ⟨a, n, c, rfl, hn, hc, _⟩ := h1.shape
  obtain ⟨b, m, d, rfl, hm, _, _⟩ := h2.shape
  have := Tryd.bytes_HasPrefix_all a b n c m d (numsU l1) (numsU l2) w (by unfold numsU; simp [hn]) (by unfold numsU; simp [hm]) hc (bytesIn_of h1) (bytesIn_of h2)
  rw [numsU_of, numsU_of] at this
  exact this.mono fun e w' ⟨h1, h2⟩ => ⟨h1, h2.symm⟩
/-- A journal is read back. -/
theorem dec_enc {l : List Ent} (hv : logV l = true) : decE (encJ l) = 0 ∧ decL (encJ l) = l ∧ (encJ l).length ≤ 70000 := by
  have hl : l.length ≤ 1000 := by
    unfold logV at hv
    simp only [Bool.and_eq_true, decide_eq_true_eq] at hv
    exact hv.1.1
  have hz := enc_len l [] (fun x hx => logV_ent hv hx)
  simp only [List.length_nil] at hz
  have hg := goodJ_of (t := []) (e := 0) hv (.inl ⟨rfl, rfl⟩)
  rw [List.append_nil] at hg
  have hz2 : (encJ l).length ≤ 70000 := by
    have : (encJ l).length = (encF [] l).length := rfl
    omega
  have h0 : decE (encJ l) = 0 := by
    unfold decE
    rw [if_neg (by omega), hg]
  refine ⟨h0, ?_, hz2⟩
  unfold decL
  rw [if_pos h0, hg]
def exL : List Ent := [⟨5, 2, ⟨#[116]⟩⟩]
theorem exL_v : logV exL = true := by decide +kernel
theorem exL_pre : ([53, 32, 50, 32, 116, 32] : List UInt8).isPrefixOf (encJ exL) = true := by
  have e : lineE ⟨5, 2, ⟨#[116]⟩⟩ = [53, 32, 50, 32, 116, 32] := by decide +kernel
  show List.isPrefixOf _ (encF ([] ++ recE [] ⟨5, 2, ⟨#[116]⟩⟩) []) = true
  show List.isPrefixOf _ ([] ++ recE [] ⟨5, 2, ⟨#[116]⟩⟩) = true
  rw [List.nil_append]
  unfold recE
  rw [e]
  rfl
theorem eqvE_v (l : List Ent) (v1 v2 : Value) (w : World) (hl : l.length ≤ 1000000) (h1 : IsE l v1 w) (h2 : IsE l v2 w) :
    Calls Tryd.prog 22 #[v1, v2] w fun e w' => e = .returned (.bool true) ∧ Below w.heap.size w w' := eqvE_any l v1 v2 w hl h1 h2

set_option maxRecDepth 100000 in
set_option maxHeartbeats 2000000 in
theorem awake_v (w : World) (he : Env w) : Calls Tryd.prog 10 #[] w fun e w' => e = .returned (.bool true) ∧ Below w.heap.size w w' := by
  have he0 := Lib.hid he
  have hexl : exL.length = 1 := rfl
  clear he
  go_enter Tryd.func10, Tryd.ntmps10
  go_wp2_with fail
  generalize hWW : World.alloc _ _ = W1
  have kx : At W1 w.heap.size 24 #[.int .i64 5, .int .i64 2, .string ⟨#[116]⟩] := by rw [← hWW]; exact At.new' rfl
  have HB : Below w.heap.size w W1 := by rw [← hWW]; exact below_al (Below.refl _ _) _
  clear hWW
  have hrow : RowAt encE 3 W1.heap.size W1 (some ⟨w.heap.size, 0, none⟩) exL := by
    intro k hk
    refine ⟨w.heap.size, 0, rfl, kx.lt, fun j u hu => ?_⟩
    have hk0 : k = 0 := by rw [hexl] at hk; omega
    subst hk0
    rw [kx.c, ← hu]
    have hj : j < 3 := (List.getElem?_eq_some_iff.1 hu).1
    rcases j with _ | _ | _ | j <;> first | rfl | omega
  have hE1 : Hid (IsE exL (.slice (some ⟨w.heap.size, 0, none⟩) 1 1) W1) := Lib.hid ⟨_, _, rfl, by rw [hexl]; exact Nat.le_refl _, by omega, hrow⟩
  have HE := Lib.hid (encode_v exL (some ⟨w.heap.size, 0, none⟩) 1 (by rw [hexl]; exact Nat.le_refl _) (by omega) (by intro x hx; simp [exL] at hx; subst hx; decide) W1 (he0.out.bel HB) hrow)
  rw [exL_v, hexl] at HE
  obtain ⟨hd1, hd2, hd3⟩ := dec_enc exL_v
  have hpre := exL_pre
  obtain ⟨J, hJ⟩ : ∃ J, encJ exL = J := ⟨_, rfl⟩
  unfold EncP at HE
  rw [hJ] at HE hd1 hd2 hd3 hpre
  replace hpre := Lib.hid hpre
  clear hJ hrow kx hexl
  refine HE.out.mono ?_
  rintro e w2 ⟨⟨-, hg⟩, hb2⟩
  obtain ⟨y, rfl, hy⟩ := hg rfl
  obtain ⟨ya, yn, yc, rfl, -, -⟩ := hy.out.shape
  replace HB := below_then HB hb2
  replace hE1 := Lib.hid (hE1.out.up hb2)
  have HD := Lib.hid (decode_v J _ (.inl (by omega)) w2 (he0.out.bel HB) hy.out)
  rw [hd1, hd2] at HD
  clear hg hb2 HE hd1 hd2 hd3
  go_wp2_with fail
  refine HD.out.mono ?_
  rintro e w3 ⟨⟨z, rfl, hz⟩, hb3⟩
  replace HB := below_then HB hb3
  replace hE1 := Lib.hid (hE1.out.up hb3)
  replace hy := Lib.hid (hy.out.up hb3)
  have hE2 : Hid (IsE exL z w3) := Lib.hid (row_isE hz.out)
  clear hb3 HD hz
  have HS0 := Lib.hid (sum_v [] (.slice none 0 0) w3 (IsB.nil w3))
  go_wp2_with fail
  refine HS0.out.mono ?_
  rintro e wn ⟨rfl, rfl⟩
  have e7 : sumB [] = 7 := rfl
  rw [e7]
  clear HS0 e7
  have hcv := Lib.run_convert_bytes_const (P := Tryd.prog) w3 22 5 #[.int .u8 97] 1 1 Tryd.underlying22 Tryd.underlying5
  go_wp2_with fail
  generalize hWW : World.alloc _ _ = W4
  have hbW : Below w3.heap.size w3 W4 := by rw [← hWW]; exact below_al (Below.refl _ _) _
  have hB4 : IsB [97] (.slice (some ⟨w3.heap.size, 0, none⟩) 1 1) W4 := by rw [← hWW]; exact lit_isB w3 _ [97] 1 rfl (by decide) rfl _
  have HS1 := Lib.hid (sum_v [97] _ W4 hB4)
  rw [show sumB [97] = 315 from by decide +kernel] at HS1
  replace HB := below_then HB hbW
  replace hE1 := Lib.hid (hE1.out.up hbW)
  replace hE2 := Lib.hid (hE2.out.up hbW)
  replace hy := Lib.hid (hy.out.up hbW)
  clear hWW hbW hB4 hcv
  refine HS1.out.mono ?_
  rintro e wn ⟨rfl, rfl⟩
  clear HS1
  have hcv := Lib.run_convert_bytes_const (P := Tryd.prog) W4 22 5 #[.int .u8 53, .int .u8 32, .int .u8 50, .int .u8 32, .int .u8 116, .int .u8 32] 6 6 Tryd.underlying22 Tryd.underlying5
  go_wp2_with fail
  generalize hWW : World.alloc _ _ = W5
  have hbW : Below W4.heap.size W4 W5 := by rw [← hWW]; exact below_al (Below.refl _ _) _
  have hB5 : IsB [53, 32, 50, 32, 116, 32] (.slice (some ⟨W4.heap.size, 0, none⟩) 6 6) W5 := by rw [← hWW]; exact lit_isB W4 _ [53, 32, 50, 32, 116, 32] 6 rfl (by decide) rfl _
  replace HB := below_then HB hbW
  replace hE1 := Lib.hid (hE1.out.up hbW)
  replace hE2 := Lib.hid (hE2.out.up hbW)
  replace hy := Lib.hid (hy.out.up hbW)
  have HP := Lib.hid (pre_v J [53, 32, 50, 32, 116, 32] _ _ W5 hy.out hB5)
  rw [hpre.out] at HP
  clear hWW hbW hB5 hcv
  refine HP.out.mono ?_
  rintro e wn ⟨rfl, rfl⟩
  clear HP
  go_wp2_with fail
  refine (eqvE_v exL _ _ _ (by decide) hE2.out hE1.out).mono ?_
  rintro e w6 ⟨rfl, hb6⟩
  replace HB := below_then HB hb6
  go_wp2_with fail
  go_ret
  exact ⟨rfl, HB⟩

def heavyB (n : Nat) : Bool := decide (2000 < n) && decide (n ≤ 1048576) || decide (1048581 < n)
theorem heavy_no {n : Nat} (h : heavyB n = false) : n ≤ 2000 ∨ (1048576 < n ∧ n ≤ 1048581) := by
  unfold heavyB at h
  simp only [Bool.or_eq_false_iff, Bool.and_eq_false_iff, decide_eq_false_iff_not] at h
  omega
set_option maxRecDepth 100000 in
theorem heavy_v (b : List UInt8) (v : Value) (w : World) (h : IsB b v w) : Calls Tryd.prog 11 #[v] w fun e w' => e = .returned (.bool (heavyB b.length)) ∧ w = w' := by
  obtain ⟨a, n, c, rfl, hn, _, _⟩ := h.shape
  rw [← hn]
  clear h hn
  by_cases h1 : 2000 < n
  · by_cases h2 : n ≤ 1048576
    · have hE : Hid (heavyB n = true) := Lib.hid (by unfold heavyB; rw [decide_eq_true h1, decide_eq_true h2]; rfl)
      have z1 : decide ((2000 : Int) < (n : Int)) = true := by simp; omega
      have z2 : decide ((n : Int) ≤ 1048576) = true := by simp; omega
      clear h1 h2
      go_enter Tryd.func11, Tryd.ntmps11
      go_wp2_with fail
      go_ret
      exact ⟨by rw [hE.out]; rfl, rfl⟩
    · have z1 : decide ((2000 : Int) < (n : Int)) = true := by simp; omega
      have z2 : decide ((n : Int) ≤ 1048576) = false := by simp; omega
      by_cases h3 : 1048581 < n
      · have hE : Hid (heavyB n = true) := Lib.hid (by unfold heavyB; rw [decide_eq_true h3, Bool.or_true])
        have z3 : decide ((1048581 : Int) < (n : Int)) = true := by simp; omega
        clear h1 h2 h3
        go_enter Tryd.func11, Tryd.ntmps11
        go_wp2_with fail
        go_ret
        exact ⟨by rw [hE.out]; rfl, rfl⟩
      · have hE : Hid (heavyB n = false) := Lib.hid (by unfold heavyB; rw [decide_eq_false h2, decide_eq_false h3, Bool.and_false]; rfl)
        have z3 : decide ((1048581 : Int) < (n : Int)) = false := by simp; omega
        clear h1 h2 h3
        go_enter Tryd.func11, Tryd.ntmps11
        go_wp2_with fail
        go_ret
        exact ⟨by rw [hE.out]; rfl, rfl⟩
  · have hE : Hid (heavyB n = false) := Lib.hid (by unfold heavyB; rw [decide_eq_false h1, decide_eq_false (show ¬ 1048581 < n by omega)]; rfl)
    have z1 : decide ((2000 : Int) < (n : Int)) = false := by simp; omega
    have z3 : decide ((1048581 : Int) < (n : Int)) = false := by simp; omega
    clear h1
    go_enter Tryd.func11, Tryd.ntmps11
    go_wp2_with fail
    go_ret
    exact ⟨by rw [hE.out]; rfl, rfl⟩

end Go.Proofs.YtdcfpopbnkafaaaDoor
