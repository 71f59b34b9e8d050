/- journal: Decode, Good, Recover. -/
import Derived.Test.YtpocmijfkjjboaaGreatDoorJoH
set_option linter.unusedVariables false
namespace Go.Proofs.YtpocmijfkjjboaaGreatDoor
open Go.ChangeShapes Go.WideShapes Go.ChangeAt Go.RowKit

open Go.Lib (decDigits itoa itoa_nonneg)
/-- Decode's error number, and its log. -/
def decE (b : List UInt8) : Int := if 1048576 < b.length then 4 else (goodJ b).2.2
def decL (b : List UInt8) : List Ent := if decE b = 0 then (goodJ b).1 else []
theorem good_parts (b : List UInt8) : ∃ l t e, goodJ b = (l, (encJ l).length, e) ∧ b = encJ l ++ t ∧ b.take (encJ l).length = encJ l ∧ b.drop (encJ l).length = t ∧ StopJ l t e ∧ (e = 0 ↔ (encJ l).length = b.length) ∧ logV l = true := by
  obtain ⟨l, t, e, h1, h2, h3, h4⟩ := goodJ_to b
  refine ⟨l, t, e, h1, h2, by rw [h2, List.take_left], by rw [h2, List.drop_left], h4, ?_, h3⟩
  have hl := congrArg List.length h2
  rw [List.length_append] at hl
  rcases h4 with ⟨rfl, rfl⟩ | ⟨h5, h6⟩
  · simp at hl ⊢
    omega
  · have h7 := nextJ_err h6
    have h8 : 1 ≤ t.length := List.length_pos_iff.2 h5
    constructor
    · intro h; exact absurd h h7
    · intro h; omega
theorem last_line {x : Ent} (hw : WordsOk x) (s : Nat) : lastI 32 (lineE x ++ (decDigits s ++ [10])) = ((lineE x).length : Int) - 1 := by
  have e : lineE x ++ (decDigits s ++ [10]) = (itoa x.day ++ 32 :: (itoa x.kind ++ 32 :: by_ x.name)) ++ 32 :: (decDigits s ++ [10]) := by
    unfold lineE
    simp
  rw [e, lastI_at (noB_app.2 ⟨dec_noB (by decide) _, noB_cons.2 ⟨by decide, noB_nil _⟩⟩)]
  unfold lineE
  simp
  omega
theorem take_line {r : List UInt8} {x : Ent} {t m : Nat} (h : entO r = some (x, t, m)) : r.take m = lineE x ++ (decDigits t ++ [10]) ∧ r.take (lineE x).length = lineE x ∧ m ≤ r.length ∧ WordsOk x ∧ t < 1000000000000000 := by
  obtain ⟨rfl, ⟨u, rfl⟩, hw, hl⟩ := entO_iff.1 h
  refine ⟨?_, by rw [List.take_left], by simp; omega, hw, dec_lt hl⟩
  rw [show lineE x ++ (decDigits t ++ 10 :: u) = (lineE x ++ (decDigits t ++ [10])) ++ u by simp, List.take_left' (by simp; omega)]
set_option maxRecDepth 100000 in
set_option maxHeartbeats 4000000 in
theorem decode_v (b : List UInt8) (v : Value) (hbl : b.length ≤ 1000000 ∨ 1048576 < b.length) (w : World) (he : Env w) (hv : IsB b v w) :
    Calls Tryz.prog 25 #[v] w fun e w' => (∃ y, e = .returned (.tuple #[y, .int .i64 (decE b)]) ∧ Hid (w'.ownsRow w.heap.size 39 3 y (decL b).length ((decL b).flatMap encE))) ∧ Below w.heap.size w w' := by
  obtain ⟨a, n, c, rfl, hn0, hnc, hcm⟩ := hv.shape
  have he0 := Lib.hid he
  have hv0 := Lib.hid hv
  obtain ⟨E, hE0⟩ : ∃ E, decE b = E := ⟨_, rfl⟩
  have hLd : decL b = if E = 0 then (goodJ b).1 else [] := by unfold decL; rw [hE0]
  by_cases hbig : 1048576 < n
  · have hE : Hid (E = 4) := Lib.hid (by rw [← hE0]; unfold decE; rw [if_pos (by omega)])
    have hL : Hid (decL b = []) := Lib.hid (by rw [hLd, hE.out]; rfl)
    rw [hE0, hL.out]
    have hbig' : (decide ((1048576 : Int) < (n : Int))) = true := by simp; omega
    clear hbl hn0 hE0 hLd hbig he hv
    go_enter Tryz.func25, Tryz.ntmps25
    go_wp2_with fail
    exact bodyPost_ret (v := .tuple #[.slice none 0 0, .int .i64 4]) (by simp [results, Tryz.results25, go_sem]) rfl ⟨⟨_, by rw [hE.out], Lib.hid (World.ownsRow_nil _ _ _ _)⟩, Below.refl _ _⟩
  have hbl6 : b.length ≤ 1000000 := by omega
  have hbig' : (decide ((1048576 : Int) < (n : Int))) = false := by simp; omega
  have HG := Lib.hid (good_v b _ hbl6 w he hv)
  obtain ⟨l, t, e, hg, hbt, htk, hdr, hst, hez, hvl⟩ := good_parts b
  rw [hg] at HG hLd
  have hE1 : E = e := by rw [← hE0]; unfold decE; rw [if_neg (by omega), hg]
  rw [hE0]
  subst hE1
  dsimp only at HG hLd
  obtain ⟨at_, hat⟩ : ∃ at_, (encJ l).length = at_ := ⟨_, rfl⟩
  rw [hat] at HG htk hdr hez
  have hatn : at_ ≤ n := by
    have := congrArg List.length hbt
    rw [List.length_append] at this
    omega
  rw [← hn0] at hez
  replace hn0 := Lib.hid hn0
  have htk' := Lib.hid htk
  have hdr' := Lib.hid hdr
  have hst' := Lib.hid hst
  have hez' := Lib.hid hez
  have hLd' := Lib.hid hLd
  replace hat := Lib.hid hat
  have hbt' := Lib.hid hbt
  clear hbl hbig he hv hg htk hdr hst hez hLd hbt hE0 hvl
  go_enter Tryz.func25, Tryz.ntmps25
  go_wp2_with fail
  refine HG.out.mono ?_
  rintro e w1 ⟨⟨y, rfl, ho⟩, HB⟩
  clear HG
  by_cases hen : at_ = n
  · have hz := hez'.out.2 hen
    subst hz
    have hLL : Hid (decL b = l) := Lib.hid (by rw [hLd'.out, if_pos rfl])
    have hc : ((at_ : Int) == (n : Int)) = true := by simp; omega
    clear hen
    go_wp2_with fail
    exact bodyPost_ret (v := .tuple #[y, .int .i64 0]) (by simp [results, Tryz.results25, go_sem]) rfl ⟨⟨y, rfl, by rw [hLL.out]; exact ho⟩, HB⟩
  have hEn : E ≠ 0 := fun h => hen (hez'.out.1 h)
  have hLL : Hid (decL b = []) := Lib.hid (by rw [hLd'.out, if_neg hEn])
  have hc : ((at_ : Int) == (n : Int)) = false := by simp; omega
  have hnx : Hid (nextJ (encJ l) l t = .error E) := Lib.hid (by
    rcases hst'.out with ⟨_, h⟩ | ⟨_, h⟩
    · exact absurd h hEn
    · exact h)
  obtain ⟨A1, hs1, hB1⟩ := (hv0.out.up HB).lo at_ hatn
  rw [hdr'.out] at hB1
  have hB1' := Lib.hid hB1
  have htl : t.length = n - at_ := by
    obtain ⟨_, _, _, e, h, _⟩ := hB1.shape
    injection e with e1 e2 e3
    omega
  have HE := Lib.hid (entry_v t _ (by have := hn0.out; omega) w1 (he0.out.bel HB) hB1)
  clear hen hEn hB1 ho
  go_wp2_with fail
  refine HE.out.mono ?_
  rintro e w2 ⟨⟨xd, xk, xn, sv, sz, ok, rfl, q1, q2, q3⟩, hb2⟩
  replace HB := below_then HB hb2
  clear hb2 HE hs1 hB1'
  cases hent : entO t with
  | none =>
    have hok := q2.out hent
    subst hok
    have hE7 : Hid (E = 7) := Lib.hid (by
      have := hnx.out
      unfold nextJ at this
      rw [hent] at this
      injection this with this
      exact this.symm)
    clear hent q1 q2 hnx
    go_wp2_with fail
    exact bodyPost_ret (v := .tuple #[.slice none 0 0, .int .i64 7]) (by simp [results, Tryz.results25, go_sem]) rfl ⟨⟨_, by rw [hE7.out], Lib.hid (by rw [hLL.out]; exact World.ownsRow_nil _ _ _ _)⟩, by have := HB; exact below_al this _⟩
  | some r =>
    obtain ⟨x, tt, m⟩ := r
    obtain ⟨rfl, rfl, rfl, rfl⟩ := q1.out _ _ _ hent
    obtain ⟨g1, g2, g3, g4, g5⟩ := take_line hent
    have hlen : 1 ≤ (lineE ⟨xd, xk, xn⟩).length := by unfold lineE; simp; omega
    obtain ⟨LL, hL0⟩ : ∃ LL, (lineE ⟨xd, xk, xn⟩).length = LL := ⟨_, rfl⟩
    rw [hL0] at g2 hlen
    have hmm : m ≤ n - at_ := by omega
    have hLm : LL ≤ m := by
      have := congrArg List.length g1
      rw [List.length_take, List.length_append, hL0] at this
      omega
    obtain ⟨e, he⟩ : ∃ e, at_ + m = e := ⟨_, rfl⟩
    obtain ⟨f, hf⟩ : ∃ f, at_ + LL = f := ⟨_, rfl⟩
    have w1' : IntKind.i64.wrap ((at_ : Int) + (m : Int)) = (e : Int) := by rw [IntWalk.i64_in _ (by omega)]; omega
    have w2' : IntKind.i64.wrap ((at_ : Int) + ((LL : Int) - 1)) = (f : Int) - 1 := by rw [IntWalk.i64_in _ (by omega)]; omega
    have w3' : IntKind.i64.wrap ((f : Int) - 1 + 1) = (f : Int) := by rw [IntWalk.i64_in _ (by omega)]; omega
    have w4' : IntKind.i64.wrap (f : Int) = (f : Int) := IntWalk.i64_in _ (by omega)
    obtain ⟨A2, hs2, hB2⟩ := (hv0.out.up HB).lh at_ e (by omega) (by omega)
    rw [hdr'.out, show e - at_ = m by omega, g1] at hB2
    have hB2' : Hid (IsB (lineE ⟨xd, xk, xn⟩ ++ (decDigits tt ++ [10])) (.slice A2 (e - at_) (c - at_)) w2) := Lib.hid (by rw [show e - at_ = m by omega]; exact hB2)
    obtain ⟨A3, hs3, hB3⟩ := (hv0.out.up HB).hi f (by omega)
    have hpre : b.take f = encJ l ++ lineE ⟨xd, xk, xn⟩ := by
      rw [hbt'.out, ← hf, ← hat.out, List.take_append, show (encJ l).take ((encJ l).length + LL) = encJ l from List.take_of_length_le (by omega), show (encJ l).length + LL - (encJ l).length = LL by omega, g2]
    rw [hpre] at hB3
    have hB3' := Lib.hid hB3
    obtain ⟨S, hS⟩ : ∃ S, sumB (encJ l ++ lineE ⟨xd, xk, xn⟩) = S := ⟨_, rfl⟩
    have hSS : sumF (sumB (encJ l)) (lineE ⟨xd, xk, xn⟩) = S := by rw [← hS]; exact (sumF_app 7 _ _).symm
    have hEE : E = if tt = S then 1 else 18 := by
      have h := hnx.out
      unfold nextJ at h
      simp only [hent] at h
      rw [hSS] at h
      by_cases h6 : tt = S
      · rw [if_neg (not_not_intro h6)] at h
        rw [if_pos h6]
        split at h
        · injection h with h; exact h.symm
        · cases h
      · rw [if_pos h6] at h
        rw [if_neg h6]
        injection h with h
        exact h.symm
    have hll := last_line g4 tt
    rw [hL0] at hll
    clear hent q1 q2 hnx g1 g2 g3 g4 g5 hpre hSS hB2 hB3 hmm hLm hL0
    replace he := Lib.hid he
    replace hf := Lib.hid hf
    go_upto_region 7 with fail
    generalize hWW : World.alloc _ _ = W3
    have hbW : Below w2.heap.size w2 W3 := by rw [← hWW]; exact below_al (Below.refl _ _) _
    clear hWW
    replace HB := below_then HB hbW
    have HLa := Lib.hid (last_v _ _ W3 (hB2'.out.up hbW))
    rw [hll] at HLa
    have HSu := Lib.hid (sum_v _ _ W3 (hB3'.out.up hbW))
    rw [hS] at HSu
    clear hbW hll hS hB2' hB3'
    by_cases h6 : tt = S
    · rw [if_pos h6] at hEE
      have h7 : ((tt : Int) != (S : Int)) = false := by simp; omega
      replace hEE := Lib.hid hEE
      clear h6
      go_wp2_with fail
      refine HLa.out.mono ?_
      rintro e w4 ⟨rfl, rfl⟩
      go_wp2_with fail
      refine HSu.out.mono ?_
      rintro e w4 ⟨rfl, rfl⟩
      go_wp2_with fail
      exact bodyPost_ret (v := .tuple #[.slice none 0 0, .int .i64 1]) (by simp [results, Tryz.results25, go_sem]) rfl ⟨⟨_, by rw [hEE.out], Lib.hid (by rw [hLL.out]; exact World.ownsRow_nil _ _ _ _)⟩, HB⟩
    · rw [if_neg h6] at hEE
      have h7 : ((tt : Int) != (S : Int)) = true := by simp; omega
      replace hEE := Lib.hid hEE
      clear h6
      go_wp2_with fail
      refine HLa.out.mono ?_
      rintro e w4 ⟨rfl, rfl⟩
      go_wp2_with fail
      refine HSu.out.mono ?_
      rintro e w4 ⟨rfl, rfl⟩
      go_wp2_with fail
      exact bodyPost_ret (v := .tuple #[.slice none 0 0, .int .i64 18]) (by simp [results, Tryz.results25, go_sem]) rfl ⟨⟨_, by rw [hEE.out], Lib.hid (by rw [hLL.out]; exact World.ownsRow_nil _ _ _ _)⟩, HB⟩

/-- A journal is read back. -/
theorem dec_enc {l : List Ent} (hv : logV l = true) : decE (encJ l) = 0 ∧ decL (encJ l) = l ∧ (encJ l).length ≤ 70000 := by
  have hl : l.length ≤ 1000 := by
    unfold logV at hv
    simp only [Bool.and_eq_true, decide_eq_true_eq] at hv
    exact hv.1.1
  have hz := enc_len l [] (fun x hx => logV_ent hv hx)
  simp only [List.length_nil] at hz
  have hg := goodJ_of (t := []) (e := 0) hv (.inl ⟨rfl, rfl⟩)
  rw [List.append_nil] at hg
  have hz2 : (encJ l).length ≤ 70000 := by
    have : (encJ l).length = (encF [] l).length := rfl
    omega
  have h0 : decE (encJ l) = 0 := by
    unfold decE
    rw [if_neg (by omega), hg]
  refine ⟨h0, ?_, hz2⟩
  unfold decL
  rw [if_pos h0, hg]

end Go.Proofs.YtpocmijfkjjboaaGreatDoor
