/- journal: Decode, Good, Recover. journal: clones of bytes; Recover. journal: append of a whole slice, or of a string, onto a row of the call's own. journal: the reference's integer, Read. journal: the reference's Good, Decode. journal: the reference's Decode. site: an object, and the reference's, apart from blocks that stay as they are; an entry done to it. -/
import Derived.Test.YtcokobdffbhpeaaGreatDoorCJ26
import Derived.Shelf.SlicesE.Clone
import Derived.Ground.SlgnProg
import Derived.Shelf.Lay
import Derived.Deep.Upon
import Derived.Lib.AppendStr
import Derived.Test.YtcokobdffbhpeaaGreatDoorCJ21
set_option linter.unusedVariables false
namespace Go.Proofs.YtcokobdffbhpeaaGreatDoor
open Go.ChangeShapes Go.WideShapes Go.ChangeAt Go.RowKit
open Go.Lib (decDigits itoa itoa_nonneg)
def decE (b : List UInt8) : Int := if 1048576 < b.length then 4 else (goodJ b).2.2
def decL (b : List UInt8) : List Ent := if decE b = 0 then (goodJ b).1 else []
theorem good_parts (b : List UInt8) : ∃ l t e, goodJ b = (l, (encJ l).length, e) ∧ b = encJ l ++ t ∧ b.take (encJ l).length = encJ l ∧ b.drop (encJ l).length = t ∧ StopJ l t e ∧ (e = 0 ↔ (encJ l).length = b.length) ∧ logV l = true := by
  obtain ⟨l, t, e, h1, h2, h3, h4⟩ := goodJ_to b
  refine ⟨l, t, e, h1, h2, by rw [h2, List.take_left], by rw [h2, List.drop_left], h4, ?_, h3⟩
  have hl := congrArg List.length h2
  rw [List.length_append] at hl
  rcases h4 with ⟨rfl, rfl⟩ | ⟨h5, h6⟩
  · simp at hl ⊢
    omega
  · have h7 := nextJ_err h6
    have h8 : 1 ≤ t.length := List.length_pos_iff.2 h5
    constructor
    · intro h; exact absurd h h7
    · intro h; omega
theorem last_line {x : Ent} (hw : WordsOk x) (s : Nat) : lastI 32 (lineE x ++ (decDigits s ++ [10])) = ((lineE x).length : Int) - 1 := by
  have e : lineE x ++ (decDigits s ++ [10]) = (itoa x.day ++ 32 :: (itoa x.kind ++ 32 :: by_ x.name)) ++ 32 :: (decDigits s ++ [10]) := by
    unfold lineE
    simp
  rw [e, lastI_at (noB_app.2 ⟨dec_noB (by decide) _, noB_cons.2 ⟨by decide, noB_nil _⟩⟩)]
  unfold lineE
  simp
  omega
theorem take_line {r : List UInt8} {x : Ent} {t m : Nat} (h : entO r = some (x, t, m)) : r.take m = lineE x ++ (decDigits t ++ [10]) ∧ r.take (lineE x).length = lineE x ∧ m ≤ r.length ∧ WordsOk x ∧ t < 1000000000000000 := by
  obtain ⟨rfl, ⟨u, rfl⟩, hw, hl⟩ := entO_iff.1 h
  refine ⟨?_, by rw [List.take_left], by simp; omega, hw, dec_lt hl⟩
  rw [show lineE x ++ (decDigits t ++ 10 :: u) = (lineE x ++ (decDigits t ++ [10])) ++ u by simp, List.take_left' (by simp; omega)]
set_option maxRecDepth 100000 in
set_option maxHeartbeats 4000000 in
theorem decode_v (b : List UInt8) (v : Value) (hbl : b.length ≤ 1000000 ∨ 1048576 < b.length) (w : World) (he : Env w) (hv : IsB b v w) :
    Calls Tryz.prog 26 #[v] w fun e w' => (∃ y, e = .returned (.tuple #[y, .int .i64 (decE b)]) ∧ Hid (w'.ownsRow w.heap.size 39 3 y (decL b).length ((decL b).flatMap encE))) ∧ Below w.heap.size w w' := by
  obtain ⟨a, n, c, rfl, hn0, hnc, hcm⟩ := hv.shape
  have he0 := Lib.hid he
  have hv0 := Lib.hid hv
  obtain ⟨E, hE0⟩ : ∃ E, decE b = E := ⟨_, rfl⟩
  have hLd : decL b = if E = 0 then (goodJ b).1 else [] := by unfold decL; rw [hE0]
  by_cases hbig : 1048576 < n
  · have hE : Hid (E = 4) := Lib.hid (by rw [← hE0]; unfold decE; rw [if_pos (by omega)])
    have hL : Hid (decL b = []) := Lib.hid (by rw [hLd, hE.out]; rfl)
    rw [hE0, hL.out]
    have hbig' : (decide ((1048576 : Int) < (n : Int))) = true := by simp; omega
    clear hbl hn0 hE0 hLd hbig he hv
    go_enter Tryz.func26, Tryz.ntmps26
    go_wp2_with fail
    exact bodyPost_ret (v := .tuple #[.slice none 0 0, .int .i64 4]) (by simp [results, Tryz.results26, go_sem]) rfl ⟨⟨_, by rw [hE.out], Lib.hid (World.ownsRow_nil _ _ _ _)⟩, Below.refl _ _⟩
  have hbl6 : b.length ≤ 1000000 := by omega
  have hbig' : (decide ((1048576 : Int) < (n : Int))) = false := by simp; omega
  have HG := Lib.hid (good_v b _ hbl6 w he hv)
  obtain ⟨l, t, e, hg, hbt, htk, hdr, hst, hez, hvl⟩ := good_parts b
  rw [hg] at HG hLd
  have hE1 : E = e := by rw [← hE0]; unfold decE; rw [if_neg (by omega), hg]
  rw [hE0]
  subst hE1
  dsimp only at HG hLd
  obtain ⟨at_, hat⟩ : ∃ at_, (encJ l).length = at_ := ⟨_, rfl⟩
  rw [hat] at HG htk hdr hez
  have hatn : at_ ≤ n := by
    have := congrArg List.length hbt
    rw [List.length_append] at this
    omega
  rw [← hn0] at hez
  replace hn0 := Lib.hid hn0
  have htk' := Lib.hid htk
  have hdr' := Lib.hid hdr
  have hst' := Lib.hid hst
  have hez' := Lib.hid hez
  have hLd' := Lib.hid hLd
  replace hat := Lib.hid hat
  have hbt' := Lib.hid hbt
  clear hbl hbig he hv hg htk hdr hst hez hLd hbt hE0 hvl
  go_enter Tryz.func26, Tryz.ntmps26
  go_wp2_with fail
  refine HG.out.mono ?_
  rintro e w1 ⟨⟨y, rfl, ho⟩, HB⟩
  clear HG
  by_cases hen : at_ = n
  · have hz := hez'.out.2 hen
    subst hz
    have hLL : Hid (decL b = l) := Lib.hid (by rw [hLd'.out, if_pos rfl])
    have hc : ((at_ : Int) == (n : Int)) = true := by simp; omega
    clear hen
    go_wp2_with fail
    exact bodyPost_ret (v := .tuple #[y, .int .i64 0]) (by simp [results, Tryz.results26, go_sem]) rfl ⟨⟨y, rfl, by rw [hLL.out]; exact ho⟩, HB⟩
  have hEn : E ≠ 0 := fun h => hen (hez'.out.1 h)
  have hLL : Hid (decL b = []) := Lib.hid (by rw [hLd'.out, if_neg hEn])
  have hc : ((at_ : Int) == (n : Int)) = false := by simp; omega
  have hnx : Hid (nextJ (encJ l) l t = .error E) := Lib.hid (by
    rcases hst'.out with ⟨_, h⟩ | ⟨_, h⟩
    · exact absurd h hEn
    · exact h)
  obtain ⟨A1, hs1, hB1⟩ := (hv0.out.up HB).lo at_ hatn
  rw [hdr'.out] at hB1
  have hB1' := Lib.hid hB1
  have htl : t.length = n - at_ := by
    obtain ⟨_, _, _, e, h, _⟩ := hB1.shape
    injection e with e1 e2 e3
    omega
  have HE := Lib.hid (entry_v t _ (by have := hn0.out; omega) w1 (he0.out.bel HB) hB1)
  clear hen hEn hB1 ho
  go_wp2_with fail
  refine HE.out.mono ?_
  rintro e w2 ⟨⟨xd, xk, xn, sv, sz, ok, rfl, q1, q2, q3⟩, hb2⟩
  replace HB := below_then HB hb2
  clear hb2 HE hs1 hB1'
  cases hent : entO t with
  | none =>
    have hok := q2.out hent
    subst hok
    have hE7 : Hid (E = 7) := Lib.hid (by
      have := hnx.out
      unfold nextJ at this
      rw [hent] at this
      injection this with this
      exact this.symm)
    clear hent q1 q2 hnx
    go_wp2_with fail
    exact bodyPost_ret (v := .tuple #[.slice none 0 0, .int .i64 7]) (by simp [results, Tryz.results26, go_sem]) rfl ⟨⟨_, by rw [hE7.out], Lib.hid (by rw [hLL.out]; exact World.ownsRow_nil _ _ _ _)⟩, by have := HB; exact below_al this _⟩
  | some r =>
    obtain ⟨x, tt, m⟩ := r
    obtain ⟨rfl, rfl, rfl, rfl⟩ := q1.out _ _ _ hent
    obtain ⟨g1, g2, g3, g4, g5⟩ := take_line hent
    have hlen : 1 ≤ (lineE ⟨xd, xk, xn⟩).length := by unfold lineE; simp; omega
    obtain ⟨LL, hL0⟩ : ∃ LL, (lineE ⟨xd, xk, xn⟩).length = LL := ⟨_, rfl⟩
    rw [hL0] at g2 hlen
    have hmm : m ≤ n - at_ := by omega
    have hLm : LL ≤ m := by
      have := congrArg List.length g1
      rw [List.length_take, List.length_append, hL0] at this
      omega
    obtain ⟨e, he⟩ : ∃ e, at_ + m = e := ⟨_, rfl⟩
    obtain ⟨f, hf⟩ : ∃ f, at_ + LL = f := ⟨_, rfl⟩
    have w1' : IntKind.i64.wrap ((at_ : Int) + (m : Int)) = (e : Int) := by rw [IntWalk.i64_in _ (by omega)]; omega
    have w2' : IntKind.i64.wrap ((at_ : Int) + ((LL : Int) - 1)) = (f : Int) - 1 := by rw [IntWalk.i64_in _ (by omega)]; omega
    have w3' : IntKind.i64.wrap ((f : Int) - 1 + 1) = (f : Int) := by rw [IntWalk.i64_in _ (by omega)]; omega
    have w4' : IntKind.i64.wrap (f : Int) = (f : Int) := IntWalk.i64_in _ (by omega)
    obtain ⟨A2, hs2, hB2⟩ := (hv0.out.up HB).lh at_ e (by omega) (by omega)
    rw [hdr'.out, show e - at_ = m by omega, g1] at hB2
    have hB2' : Hid (IsB (lineE ⟨xd, xk, xn⟩ ++ (decDigits tt ++ [10])) (.slice A2 (e - at_) (c - at_)) w2) := Lib.hid (by rw [show e - at_ = m by omega]; exact hB2)
    obtain ⟨A3, hs3, hB3⟩ := (hv0.out.up HB).hi f (by omega)
    have hpre : b.take f = encJ l ++ lineE ⟨xd, xk, xn⟩ := by
      rw [hbt'.out, ← hf, ← hat.out, List.take_append, show (encJ l).take ((encJ l).length + LL) = encJ l from List.take_of_length_le (by omega), show (encJ l).length + LL - (encJ l).length = LL by omega, g2]
    rw [hpre] at hB3
    have hB3' := Lib.hid hB3
    obtain ⟨S, hS⟩ : ∃ S, sumB (encJ l ++ lineE ⟨xd, xk, xn⟩) = S := ⟨_, rfl⟩
    have hSS : sumF (sumB (encJ l)) (lineE ⟨xd, xk, xn⟩) = S := by rw [← hS]; exact (sumF_app 7 _ _).symm
    have hEE : E = if tt = S then 1 else 18 := by
      have h := hnx.out
      unfold nextJ at h
      simp only [hent] at h
      rw [hSS] at h
      by_cases h6 : tt = S
      · rw [if_neg (not_not_intro h6)] at h
        rw [if_pos h6]
        split at h
        · injection h with h; exact h.symm
        · cases h
      · rw [if_pos h6] at h
        rw [if_neg h6]
        injection h with h
        exact h.symm
    have hll := last_line g4 tt
    rw [hL0] at hll
    clear hent q1 q2 hnx g1 g2 g3 g4 g5 hpre hSS hB2 hB3 hmm hLm hL0
    replace he := Lib.hid he
    replace hf := Lib.hid hf
    go_upto_region 7 with fail
    generalize hWW : World.alloc _ _ = W3
    have hbW : Below w2.heap.size w2 W3 := by rw [← hWW]; exact below_al (Below.refl _ _) _
    clear hWW
    replace HB := below_then HB hbW
    have HLa := Lib.hid (last_v _ _ W3 (hB2'.out.up hbW))
    rw [hll] at HLa
    have HSu := Lib.hid (sum_v _ _ W3 (hB3'.out.up hbW))
    rw [hS] at HSu
    clear hbW hll hS hB2' hB3'
    by_cases h6 : tt = S
    · rw [if_pos h6] at hEE
      have h7 : ((tt : Int) != (S : Int)) = false := by simp; omega
      replace hEE := Lib.hid hEE
      clear h6
      go_wp2_with fail
      refine HLa.out.mono ?_
      rintro e w4 ⟨rfl, rfl⟩
      go_wp2_with fail
      refine HSu.out.mono ?_
      rintro e w4 ⟨rfl, rfl⟩
      go_wp2_with fail
      exact bodyPost_ret (v := .tuple #[.slice none 0 0, .int .i64 1]) (by simp [results, Tryz.results26, go_sem]) rfl ⟨⟨_, by rw [hEE.out], Lib.hid (by rw [hLL.out]; exact World.ownsRow_nil _ _ _ _)⟩, HB⟩
    · rw [if_neg h6] at hEE
      have h7 : ((tt : Int) != (S : Int)) = true := by simp; omega
      replace hEE := Lib.hid hEE
      clear h6
      go_wp2_with fail
      refine HLa.out.mono ?_
      rintro e w4 ⟨rfl, rfl⟩
      go_wp2_with fail
      refine HSu.out.mono ?_
      rintro e w4 ⟨rfl, rfl⟩
      go_wp2_with fail
      exact bodyPost_ret (v := .tuple #[.slice none 0 0, .int .i64 18]) (by simp [results, Tryz.results26, go_sem]) rfl ⟨⟨_, by rw [hEE.out], Lib.hid (by rw [hLL.out]; exact World.ownsRow_nil _ _ _ _)⟩, HB⟩
theorem dec_enc {l : List Ent} (hv : logV l = true) : decE (encJ l) = 0 ∧ decL (encJ l) = l ∧ (encJ l).length ≤ 70000 := by
  have hl : l.length ≤ 1000 := by
    unfold logV at hv
    simp only [Bool.and_eq_true, decide_eq_true_eq] at hv
    exact hv.1.1
  have hz := enc_len l [] (fun x hx => logV_ent hv hx)
  simp only [List.length_nil] at hz
  have hg := goodJ_of (t := []) (e := 0) hv (.inl ⟨rfl, rfl⟩)
  rw [List.append_nil] at hg
  have hz2 : (encJ l).length ≤ 70000 := by
    have : (encJ l).length = (encF [] l).length := rfl
    omega
  have h0 : decE (encJ l) = 0 := by
    unfold decE
    rw [if_neg (by omega), hg]
  refine ⟨h0, ?_, hz2⟩
  unfold decL
  rw [if_pos h0, hg]
end Go.Proofs.YtcokobdffbhpeaaGreatDoor
set_option linter.unusedVariables false
namespace Go.Proofs.YtcokobdffbhpeaaGreatDoor
open Go.ChangeShapes Go.WideShapes Go.ChangeAt Go.RowKit Go.Shelf
open Go.Lib (decDigits itoa itoa_nonneg)
shelf_lay_g SlLaysE0.n41 Slgn 41 at Tryz 16 as Tryz.cloneByt
noncomputable def u8I : TypeInfo := (Tryz.prog.info? 5).get (by kernel_rfl)
theorem cloneB_v (l : List UInt8) (v : Value) (hl : l.length ≤ 100000) (w : World) (h : IsB l v w) :
    Calls Tryz.prog 16 #[v] w fun e w' => (∃ cy cc, e = .returned (.slice cy l.length cc) ∧ Hid (w'.ownsRow w.heap.size 5 1 (.slice cy l.length cc) l.length (l.flatMap encU))) ∧ Below w.heap.size w w' := by
  obtain ⟨ao, cap, rfl, h2, h3, h4, h5⟩ := h
  rcases h5 with ⟨rfl, rfl⟩ | ⟨b, off, rfl⟩
  · obtain rfl := List.length_eq_zero_iff.1 (Nat.le_zero.1 h2)
    refine (AnyE.slices_Clone_nil Tryz.cloneByt 0 0 w).mono ?_
    rintro e w' ⟨rfl, rfl⟩
    exact ⟨⟨none, 0, rfl, Lib.hid (World.ownsRow_nil _ _ _ _)⟩, Below.refl _ _⟩
  · refine (AnyE.slices_Clone Tryz.cloneByt u8I (.int .u8 0) 1 1 (by kernel_rfl) (by kernel_rfl) (by kernel_rfl) (by kernel_rfl) rfl (by decide) Tryz.sizeOf5 b off l.length cap (l.flatMap encU) w (flat_len encU_len l) (by unfold maxLen; omega) (by omega) (h4.flat encU_len (by decide)) ?_).mono ?_
    · intro u hu
      obtain ⟨x, _, hx⟩ := List.mem_flatMap.1 hu
      simp [encU] at hx
      subst hx
      rfl
    · rintro e w' ⟨y, rfl, h1, h2, h3⟩
      obtain ⟨cy, cc, rfl⟩ := own_slice h1
      exact ⟨⟨cy, cc, rfl, Lib.hid h1⟩, h3⟩
def gooN (b : List UInt8) : Nat × Nat × Int := if 1048576 < b.length then (0, 0, 4) else ((goodJ b).1.length, (goodJ b).2.1, 0)
def recN (b : List UInt8) : Int := if 1048576 < b.length then 4 else 0
def recL (b : List UInt8) : List Ent := if 1048576 < b.length then [] else (goodJ b).1
def recB (b : List UInt8) : List UInt8 := if 1048576 < b.length then [] else b.take (goodJ b).2.1
set_option maxRecDepth 100000 in
set_option maxHeartbeats 2000000 in
theorem recover_v (b : List UInt8) (v : Value) (hbl : b.length ≤ 100000 ∨ 1048576 < b.length) (w : World) (he : Env w) (hv : IsB b v w) :
    Calls Tryz.prog 9 #[v] w fun e w' => (∃ y z er, e = .returned (.tuple #[y, z, .int .i64 er]) ∧ Hid (er = recN b) ∧ Hid (w'.ownsRow w.heap.size 5 1 y (recB b).length ((recB b).flatMap encU)) ∧ Hid (w'.ownsRow w.heap.size 39 3 z (recL b).length ((recL b).flatMap encE))) ∧ Below w.heap.size w w' := by
  obtain ⟨a, n, c, rfl, hn0, hnc, hcm⟩ := hv.shape
  have he0 := Lib.hid he
  have hv0 := Lib.hid hv
  by_cases hbig : 1048576 < n
  · have hbig2 : 1048576 < b.length := by omega
    have hE : Hid ((4 : Int) = recN b) := Lib.hid (by unfold recN; rw [if_pos hbig2])
    have hE1 : Hid (recL b = []) := Lib.hid (by unfold recL; rw [if_pos hbig2])
    have hE2 : Hid (recB b = []) := Lib.hid (by unfold recB; rw [if_pos hbig2])
    have hbig' : (decide ((1048576 : Int) < (n : Int))) = true := by simp; omega
    clear hbl hn0 hbig he hv hbig2
    go_enter Tryz.func9, Tryz.ntmps9
    go_wp2_with fail
    exact bodyPost_ret (v := .tuple #[.slice none 0 0, .slice none 0 0, .int .i64 4]) (by simp [results, Tryz.results9, go_sem]) rfl ⟨⟨_, _, _, rfl, hE, by rw [hE2.out]; exact Lib.hid (World.ownsRow_nil _ _ _ _), by rw [hE1.out]; exact Lib.hid (World.ownsRow_nil _ _ _ _)⟩, Below.refl _ _⟩
  have hnb : Hid (¬ 1048576 < b.length) := Lib.hid (by omega)
  have hbig' : (decide ((1048576 : Int) < (n : Int))) = false := by simp; omega
  have HG := Lib.hid (good_v b _ (by omega) w he hv)
  have hbn : Hid (n ≤ 100000) := Lib.hid (by omega)
  obtain ⟨l, t, e, hg, hbt, htk, hdr, hst, hez, hvl⟩ := good_parts b
  have hg' := Lib.hid hg
  rw [hg] at HG
  dsimp only at HG
  obtain ⟨at_, hat⟩ : ∃ at_, (encJ l).length = at_ := ⟨_, rfl⟩
  rw [hat] at HG
  have hatn : at_ ≤ n := by
    have := congrArg List.length hbt
    rw [List.length_append] at this
    omega
  replace hn0 := Lib.hid hn0
  replace hat := Lib.hid hat
  have hl0 : Hid (l.length ≤ 1000) := Lib.hid (by
    unfold logV at hvl
    simp only [Bool.and_eq_true, decide_eq_true_eq] at hvl
    exact hvl.1.1)
  clear hbl hbig he hv hg hbt htk hdr hst hez hvl
  go_enter Tryz.func9, Tryz.ntmps9
  go_wp2_with fail
  refine HG.out.mono ?_
  rintro e w1 ⟨⟨y, rfl, ho⟩, HB⟩
  clear HG
  have hE : Hid ((0 : Int) = recN b) := Lib.hid (by unfold recN; rw [if_neg hnb.out])
  have hE1 : Hid (recL b = l) := Lib.hid (by unfold recL; rw [if_neg hnb.out, hg'.out])
  have hE2 : Hid (recB b = b.take at_) := Lib.hid (by unfold recB; rw [if_neg hnb.out, hg'.out, hat.out])
  obtain ⟨A3, hs3, hB3⟩ := (hv0.out.up HB).hi at_ hatn
  have HC := Lib.hid (cloneB_v (b.take at_) _ (by rw [List.length_take]; have := hbn.out; omega) w1 hB3)
  clear hB3
  go_wp2_with fail
  refine HC.out.mono ?_
  rintro e w2 ⟨⟨cy, cc, rfl, hc⟩, hb2⟩
  obtain ⟨LL, hLL⟩ : ∃ LL, (b.take at_).length = LL := ⟨_, rfl⟩
  have hc2 : Hid (w2.ownsRow w.heap.size 5 1 (.slice cy LL cc) (recB b).length ((recB b).flatMap encU)) := Lib.hid (by
    rw [hE2.out, ← hLL]
    exact own_weak hc.out HB.size)
  have ho2 : Hid (w2.ownsRow w.heap.size 39 3 y (recL b).length ((recL b).flatMap encE)) := Lib.hid (by
    rw [hE1.out]
    exact World.ownsRow_up ho.out hb2)
  replace HB := below_then HB hb2
  rw [hLL]
  clear hb2 HC hs3 hLL hc ho
  go_wp2_with fail
  exact bodyPost_ret (v := .tuple #[.slice cy LL cc, y, .int .i64 0]) (by simp [results, Tryz.results9, go_sem]) rfl ⟨⟨_, _, _, rfl, hE, hc2, ho2⟩, HB⟩
end Go.Proofs.YtcokobdffbhpeaaGreatDoor
set_option linter.unusedVariables false
namespace Go.Proofs.YtcokobdffbhpeaaGreatDoor
open Go.ChangeShapes Go.WideShapes Go.ChangeAt Go.RowKit
open Go.Lib (decDigits itoa itoa_nonneg)
end Go.Proofs.YtcokobdffbhpeaaGreatDoor
set_option linter.unusedVariables false
namespace Go.Proofs.YtcokobdffbhpeaaGreatDoor
open Go.ChangeShapes Go.WideShapes Go.ChangeAt Go.RowKit
open Go.Lib (decDigits itoa itoa_nonneg)
end Go.Proofs.YtcokobdffbhpeaaGreatDoor
set_option linter.unusedVariables false
namespace Go.Proofs.YtcokobdffbhpeaaGreatDoor
open Go.ChangeShapes Go.WideShapes Go.ChangeAt Go.RowKit
open Go.Lib (decDigits itoa itoa_nonneg)
end Go.Proofs.YtcokobdffbhpeaaGreatDoor
set_option linter.unusedVariables false
namespace Go.Proofs.YtcokobdffbhpeaaGreatDoor
open Go.ChangeShapes Go.WideShapes Go.ChangeAt Go.RowKit
end Go.Proofs.YtcokobdffbhpeaaGreatDoor
set_option linter.unusedVariables false
namespace Go.Proofs.YtcokobdffbhpeaaGreatDoor
open Go.ChangeShapes Go.WideShapes Go.ChangeAt Go.RowKit
structure Kp (Av : Nat → Prop) (w w' : World) : Prop where
  os : w'.os = w.os
  tape : w'.tape = w.tape
  output : w'.output = w.output
  size : w.heap.size ≤ w'.heap.size
  block : ∀ b, Av b → w'.heap[b]? = w.heap[b]?
section
variable {Av : Nat → Prop} {a w w' u : World} {g h : Nat} {s t : St}
theorem Kp.refl (w : World) : Kp Av w w := ⟨rfl, rfl, rfl, Nat.le_refl _, fun _ _ => rfl⟩
theorem Kp.of_below (h : Below w.heap.size w w') (hav : ∀ b, Av b → b < w.heap.size) : Kp Av w w' := ⟨h.os, h.tape, h.output, h.size, fun b hb => h.block b (hav b hb)⟩
theorem Kp.trans (h : Kp Av a w) (k : Kp Av w w') : Kp Av a w' := ⟨k.os.trans h.os, k.tape.trans h.tape, k.output.trans h.output, Nat.le_trans h.size k.size, fun b hb => (k.block b hb).trans (h.block b hb)⟩
theorem Kp.then (h : Kp Av a w) (hav : ∀ b, Av b → b < a.heap.size) (k : Below w.heap.size w w') : Kp Av a w' := h.trans (Kp.of_below k fun b hb => Nat.lt_of_lt_of_le (hav b hb) h.size)
theorem Kp.below {B : Nat} (h : Kp Av w w') (hB : ∀ b, b < B → Av b) : Below B w w' := ⟨h.os, h.tape, h.output, h.size, fun k hk => h.block k (hB k hk)⟩
theorem Kp.of_frm {F : List (Option Nat)} (h : Frm F w w') (hd : ∀ b, Av b → some b ∉ F) (hav : ∀ b, Av b → b < w.heap.size) : Kp Av w w' := ⟨h.os, h.tape, h.output, h.size, fun b hb => h.block b (hav b hb) (hd b hb)⟩
theorem Kp.mono {Av' : Nat → Prop} (h : Kp Av w w') (hm : ∀ b, Av' b → Av b) : Kp Av' w w' := ⟨h.os, h.tape, h.output, h.size, fun b hb => h.block b (hm b hb)⟩
def Lone (Av : Nat → Prop) (w : World) (g : Nat) (s : St) : Prop := ∃ p, SiteW w g s p ∧ ∀ b, some b ∈ p.fp g → ¬ Av b
theorem Lone.up (hb : Below w.heap.size w w') (hd : Lone Av w g s) : Lone Av w' g s := by
  obtain ⟨p, h1, h3⟩ := hd
  exact ⟨p, h1.bel hb, h3⟩
theorem lone_do (hd : Lone Av u g s) (hav : ∀ b, Av b → b < u.heap.size) (hok : s.ok) (xd xk : Int) (xn : ByteArray) (hz : xn.size ≤ 60) :
    Calls Tryz.prog 14 #[.pointer (some ⟨g, 0, none⟩), .agg #[.int .i64 xd, .int .i64 xk, .string xn]] u fun e w' => e = .returned (.int .i64 (doS s ⟨xd, xk, xn⟩).1) ∧ Lone Av w' g (doS s ⟨xd, xk, xn⟩).2 ∧ Kp Av u w' := by
  obtain ⟨p, h1, h3⟩ := hd
  refine (do_any s hok xd xk xn hz g p u h1).mono ?_
  rintro e w' ⟨rfl, p', k1, k2, k3⟩
  refine ⟨rfl, ⟨p', k1, fun b hb ha => ?_⟩, Kp.of_frm k2 (fun b ha hn => h3 b hn ha) hav⟩
  rcases k3 b hb with r | r
  · exact h3 b r ha
  · have := hav b ha
    omega
end
def repE (l : List Bun) (m : ByteArray) (b : List UInt8) : Int := if newOk l m = false then 1 else if decE b ≠ 0 then decE b else (playF (decL b) (st0 l m)).1
def repS (l : List Bun) (m : ByteArray) (b : List UInt8) : St := (playF (decL b) (st0 l m)).2
def RepPost (l : List Bun) (m : ByteArray) (b : List UInt8) (w : World) (e : Ending) (w' : World) : Prop :=
  (repE l m b ≠ 0 → e = .returned (.tuple #[.pointer none, .int .i64 (repE l m b)])) ∧ (repE l m b = 0 → ∃ g p, e = .returned (.tuple #[.pointer (some ⟨g, 0, none⟩), .int .i64 0]) ∧ SiteW w' g (repS l m b) p ∧ ∀ x, some x ∈ p.fp g → w.heap.size ≤ x) ∧ Below w.heap.size w w'
theorem decL_names (b : List UInt8) : ∀ x ∈ decL b, x.name.size ≤ 60 := by
  unfold decL
  split
  · obtain ⟨l, t, e, hg, _, _, _, _, _, hv⟩ := good_parts b
    rw [hg]
    intro x hx
    have := (WordsOk.of (logV_ent hv hx)).bd.2
    omega
  · simp
theorem decL_few (b : List UInt8) : (decL b).length ≤ 1000 := by
  unfold decL
  split
  · obtain ⟨l, t, e, hg, _, _, _, _, _, hv⟩ := good_parts b
    rw [hg]
    unfold logV at hv
    simp only [Bool.and_eq_true, decide_eq_true_eq] at hv
    exact hv.1.1
  · simp
theorem repE_new {l : List Bun} {m : ByteArray} (b : List UInt8) (h : newOk l m = false) : repE l m b = 1 := by unfold repE; rw [if_pos h]
theorem repE_dec {l : List Bun} {m : ByteArray} {b : List UInt8} (h : newOk l m = true) (hd : decE b ≠ 0) : repE l m b = decE b := by unfold repE; rw [if_neg (by rw [h]; decide), if_pos hd]
theorem repE_play {l : List Bun} {m : ByteArray} {b : List UInt8} (h : newOk l m = true) (hd : decE b = 0) : repE l m b = (playF (decL b) (st0 l m)).1 := by unfold repE; rw [if_neg (by rw [h]; decide), if_neg (by rw [hd]; decide)]
end Go.Proofs.YtcokobdffbhpeaaGreatDoor
